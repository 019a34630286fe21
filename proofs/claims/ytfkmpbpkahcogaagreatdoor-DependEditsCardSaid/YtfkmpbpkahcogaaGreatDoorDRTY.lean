/- A plan among the arguments. Conditions: none. -/
import Derived.Test.YtfkmpbpkahcogaaGreatDoorDRTX
import Derived.Test.YtfkmpbpkahcogaaGreatDoorPLR
import Derived.Deep.Slices
import Derived.ChangeArms
import Derived.Test.YtfkmpbpkahcogaaGreatDoorProg
import Derived.KernelRfl
import Derived.Test.YtfkmpbpkahcogaaGreatDoorPwY
import Derived.Test.YtfkmpbpkahcogaaGreatDoorDT
import Derived.Test.YtfkmpbpkahcogaaGreatDoorCG0
import Derived.Test.YtfkmpbpkahcogaaGreatDoorCG1
import Derived.Test.YtfkmpbpkahcogaaGreatDoorDG0
import Derived.Test.YtfkmpbpkahcogaaGreatDoorDG1
import Derived.Test.YtfkmpbpkahcogaaGreatDoorDG2
import Derived.Test.YtfkmpbpkahcogaaGreatDoorDG3
import Derived.Test.YtfkmpbpkahcogaaGreatDoorDG4
import Derived.Test.YtfkmpbpkahcogaaGreatDoorDG5
namespace Go.Proofs.YtfkmpbpkahcogaaGreatDoor
open Go Pw Dp Go.ChangeShapes Go.WideShapes Go.ChangeAt Go.RowKit
section
variable {H : Type} {enc : TypeId × Value -> H} {P : Program} {W : World}
theorem cell_arr {n fuel : Nat} {e g : TypeId} {cs : List Value} {y : DataW H × List MemPlace} (he : P.underlying e = some (.array n g)) (hg : P.underlying g = some (.int .i64)) (hc : P.cellsOf g = 1) (hl : cs.length = n)
  (h : DataW.trod enc P W 0 (fun _ => true) true fuel e cs = some y) : ∃ l : List Int, l.length = n /\ cs = l.map (Value.int .i64) /\ ∀ i ∈ l, I64 i := by
 obtain ⟨xs, m, _, _, _, hx, hat⟩ := DataW.trod_array he h
 have key : ∀ i (hi : i < cs.length), ∃ x : Int, cs[i] = Value.int .i64 x /\ (Lit.int .i64 x).wf = true := by
  intro i hi
  have h0 := hat i (by omega)
  rw [hc, Nat.mul_one] at h0
  have hxi : i < xs.length := by omega
  rw [List.getElem?_eq_getElem hxi] at h0
  obtain ⟨x, hx', _, hw⟩ := DataW.trod_int hg h0
  refine ⟨x, ?_, hw⟩
  rw [List.drop_eq_getElem_cons hi, List.take_succ_cons, List.take_zero] at hx'
  exact (List.cons.inj hx').1
 refine ⟨cs.map fun v => match v with | .int _ x => x | _ => 0, by simp [hl], ?_, ?_⟩
 ·apply List.ext_getElem
  ·simp
  ·intro i h1 h2
   obtain ⟨x, hx', _⟩ := key i h1
   simp [hx']
 ·intro x hx
  simp only [List.mem_map] at hx
  obtain ⟨v, hv, rfl⟩ := hx
  obtain ⟨i, hi, rfl⟩ := List.getElem_of_mem hv
  obtain ⟨y, hy, hw⟩ := key i hi
  rw [hy]
  exact wf_i64 hw
theorem cell_slice {α : Type} {encA : α -> List Value} {n fuel : Nat} {F : α -> Prop} {t e : TypeId} {cs : List Value} {x : DataW H × List MemPlace} (ht : P.underlying t = some (.slice e)) (hc : P.cellsOf e = n) (hn : ∀ a, (encA a).length = n) (hn0 : 0 < n)
  (hop : ∀ fuel cs y, cs.length = n -> DataW.trod enc P W 0 (fun _ => true) true fuel e cs = some y -> ∃ a, cs = encA a /\ F a)
  (h : DataW.trod enc P W 0 (fun _ => true) true fuel t cs = some x) : ∃ (q : Sl) (l : List α), cs = [.slice q.p q.l q.c] /\ Vw n encA W q l /\ ∀ a ∈ l, F a := by
 rcases Go.Deep.open_slice ht h with ⟨rfl, _⟩ | ⟨a', len, cap, m, n', D, Pl, rfl, _, hle, _, hm, hx, hel⟩
 ·exact ⟨⟨none, 0, 0⟩, [], rfl, Vw.nil, fun a h => by cases h⟩
 ·simp only [if_true] at hm
  subst hm
  rw [hc] at hel
  have key : ∀ i, i < len -> ∃ q : α, F q /\ ∀ j, j < n -> W.cell? ((a'.add (i * n)).add j) = (encA q)[j]? := fun i hi => by
   obtain ⟨cs', g1, g2⟩ := hel i (by omega)
   obtain ⟨_, hlen, hcell⟩ := World.cells?_some g1
   obtain ⟨q, rfl, hq⟩ := hop _ _ _ hlen g2
   exact ⟨q, hq, hcell⟩
  let qs := (List.range len).pmap (fun i (hi : i < len) => Classical.choose (key i hi)) (fun i hi => List.mem_range.1 hi)
  have hql : qs.length = len := by simp [qs]
  have hq : ∀ i (hi : i < qs.length), F qs[i] /\ ∀ j, j < n -> W.cell? ((a'.add (i * n)).add j) = (encA qs[i])[j]? := fun i hi => by
   have hi' : i < len := by omega
   have e : qs[i] = Classical.choose (key i hi') := by simp [qs]
   rw [e]
   exact Classical.choose_spec (key i hi')
  clear_value qs
  refine ⟨⟨some a', len, m⟩, qs, rfl, ⟨hql.symm, hle, ?_⟩, fun a ha => ?_⟩
  ·refine ⟨by rw [fm_length hn]; simp [hql], fun i hi => ?_⟩
   rw [fm_length hn] at hi
   have hin : i / n < qs.length := Nat.div_lt_of_lt_mul (by rw [Nat.mul_comm]; exact hi)
   have hmod := Nat.mod_lt i hn0
   have h2 := (hq (i / n) hin).2 (i % n) hmod
   have h3 := fm_at hn qs (i / n) (i % n) qs[i / n] (List.getElem?_eq_getElem hin) hmod
   rw [add_add] at h2
   have e : i / n * n + i % n = i := by rw [Nat.mul_comm]; exact Nat.div_add_mod i n
   rw [e] at h2 h3
   rw [h2, ← h3]
   exact List.getElem?_eq_getElem _
  ·obtain ⟨i, hi, rfl⟩ := List.mem_iff_getElem.1 ha
   exact (hq i hi).1
theorem cell_ints {fuel : Nat} {t e : TypeId} {cs : List Value} {x : DataW H × List MemPlace} (ht : P.underlying t = some (.slice e)) (he : P.underlying e = some (.int .i64)) (hc : P.cellsOf e = 1)
  (h : DataW.trod enc P W 0 (fun _ => true) true fuel t cs = some x) : ∃ (q : Sl) (l : List Int), cs = [.slice q.p q.l q.c] /\ Vw 1 (fun n => [Value.int .i64 n]) W q l /\ ∀ a ∈ l, I64 a :=
 cell_slice ht hc (fun _ => rfl) (by decide) (fun fuel cs y _ h => by
  obtain ⟨a, ha, _, w⟩ := DataW.trod_int he h
  exact ⟨a, ha, wf_i64 w⟩) h
theorem cell_l2 {fuel : Nat} {t e g : TypeId} {cs : List Value} {x : DataW H × List MemPlace} (ht : P.underlying t = some (.slice e)) (he : P.underlying e = some (.array 2 g)) (hg : P.underlying g = some (.int .i64)) (ce : P.cellsOf e = 2) (cg : P.cellsOf g = 1)
  (h : DataW.trod enc P W 0 (fun _ => true) true fuel t cs = some x) : ∃ (q : Sl) (l : List (Int × Int)), cs = [.slice q.p q.l q.c] /\ Vw 2 encL W q l /\ ∀ a ∈ l, I64 a.2 :=
 cell_slice ht ce encL_length (by decide) (fun fuel cs y hl h => by
  obtain ⟨l, h1, rfl, h2⟩ := cell_arr he hg cg hl h
  match l, h1 with
  | [a, b], _ => exact ⟨(a, b), rfl, h2 b (by simp)⟩) h
theorem cell_l3 {fuel : Nat} {t e g : TypeId} {cs : List Value} {x : DataW H × List MemPlace} (ht : P.underlying t = some (.slice e)) (he : P.underlying e = some (.array 3 g)) (hg : P.underlying g = some (.int .i64)) (ce : P.cellsOf e = 3) (cg : P.cellsOf g = 1)
  (h : DataW.trod enc P W 0 (fun _ => true) true fuel t cs = some x) : ∃ (q : Sl) (l : List (Int × Int × Int)), cs = [.slice q.p q.l q.c] /\ Vw 3 encT3 W q l /\ ∀ a ∈ l, I64 a.1 /\ I64 a.2.1 /\ I64 a.2.2 :=
 cell_slice ht ce encT3_length (by decide) (fun fuel cs y hl h => by
  obtain ⟨l, h1, rfl, h2⟩ := cell_arr he hg cg hl h
  match l, h1 with
  | [a, b, c], _ => exact ⟨(a, b, c), rfl, h2 a (by simp), h2 b (by simp), h2 c (by simp)⟩) h
theorem cell_l4 {fuel : Nat} {t e g : TypeId} {cs : List Value} {x : DataW H × List MemPlace} (ht : P.underlying t = some (.slice e)) (he : P.underlying e = some (.array 4 g)) (hg : P.underlying g = some (.int .i64)) (ce : P.cellsOf e = 4) (cg : P.cellsOf g = 1)
  (h : DataW.trod enc P W 0 (fun _ => true) true fuel t cs = some x) : ∃ (q : Sl) (l : List (Int × Int × Int × Int)), cs = [.slice q.p q.l q.c] /\ Vw 4 encT4 W q l /\ ∀ a ∈ l, I64 a.2.2.1 /\ I64 a.2.2.2 :=
 cell_slice ht ce encT4_length (by decide) (fun fuel cs y hl h => by
  obtain ⟨l, h1, rfl, h2⟩ := cell_arr he hg cg hl h
  match l, h1 with
  | [a, b, c, d], _ => exact ⟨(a, b, c, d), rfl, h2 c (by simp), h2 d (by simp)⟩) h
theorem cell_cp {fuel : Nat} {t e g : TypeId} {cs : List Value} {x : DataW H × List MemPlace} (ht : P.underlying t = some (.slice e)) (he : P.underlying e = some (.slice g)) (hg : P.underlying g = some (.int .i64)) (ce : P.cellsOf e = 1) (cg : P.cellsOf g = 1)
  (h : DataW.trod enc P W 0 (fun _ => true) true fuel t cs = some x) : ∃ (q : Sl) (l : List (List Int)), cs = [.slice q.p q.l q.c] /\ CP W q l /\ ∀ a ∈ l, ∀ i ∈ a, I64 i := by
 obtain ⟨q, l, h1, h2, h3⟩ := cell_slice (α := Sl × List Int) (encA := fun z => encZ z.1) (F := fun z => Vw 1 encI W z.1 z.2 /\ ∀ i ∈ z.2, I64 i) ht ce (fun _ => rfl) (by decide) (fun fuel cs y _ h => by
  obtain ⟨q, l, h1, h2, h3⟩ := cell_ints he hg cg h
  exact ⟨(q, l), h1, h2, h3⟩) h
 refine ⟨q, l.map (·.2), h1, ⟨l.map (·.1), ⟨by rw [h2.len]; simp, h2.cap, ?_⟩, by simp, fun i a b => ?_⟩, fun a ha => ?_⟩
 ·have e : (l.map (·.1)).flatMap encZ = l.flatMap fun z => encZ z.1 := by rw [List.flatMap_map]
  rw [e]
  exact h2.rd
 ·simp only [List.getElem_map]
  exact (h3 _ (List.getElem_mem (by simpa using a))).1
 ·obtain ⟨z, hz, rfl⟩ := List.mem_map.1 ha
  exact (h3 z hz).2
theorem arg_plan {r : Reach} {b0 : Nat} {t : TypeId} {a2 a3 a4 g s1 : TypeId} {f0 f1 f2 f3 f4 f5 f6 : Field} {v : Value} {d : DataW H} {ps : List MemPlace} (ht : P.underlying t = some (.struct #[f0, f1, f2, f3, f4, f5, f6]))
  (u0 : P.underlying f0.type = some (.slice a2)) (u1 : P.underlying f1.type = some (.slice a4)) (u2 : P.underlying f2.type = some (.slice a3)) (u3 : P.underlying f3.type = some (.slice g)) (u4 : P.underlying f4.type = some (.slice g)) (u5 : P.underlying f5.type = some (.slice s1)) (u6 : P.underlying f6.type = some (.array 10 g))
  (w2 : P.underlying a2 = some (.array 2 g)) (w4 : P.underlying a4 = some (.array 4 g)) (w3 : P.underlying a3 = some (.array 3 g)) (ws : P.underlying s1 = some (.slice g)) (wg : P.underlying g = some (.int .i64))
  (o : f0.offset = 0 /\ f1.offset = 1 /\ f2.offset = 2 /\ f3.offset = 3 /\ f4.offset = 4 /\ f5.offset = 5 /\ f6.offset = 6) (c : P.cellsOf f0.type = 1 /\ P.cellsOf f1.type = 1 /\ P.cellsOf f2.type = 1 /\ P.cellsOf f3.type = 1 /\ P.cellsOf f4.type = 1 /\ P.cellsOf f5.type = 1 /\ P.cellsOf f6.type = 10)
  (k : P.cellsOf t = 16 /\ P.cellsOf a2 = 2 /\ P.cellsOf a4 = 4 /\ P.cellsOf a3 = 3 /\ P.cellsOf s1 = 1 /\ P.cellsOf g = 1) (hval : Value.okWide P W r b0 t v) (h : DataW.Trod enc P W 0 (fun _ => true) true t v d ps) :
  ∃ (x : T29) (p : Pn), v = .agg x.cs.toArray /\ PP W x p /\ PFit p := by
 obtain ⟨o0, o1, o2, o3, o4, o5, o6⟩ := o
 obtain ⟨c0, c1, c2, c3, c4, c5, c6⟩ := c
 obtain ⟨k0, k1, k2, k3, k4, k5⟩ := k
 unfold Value.okWide at hval
 rw [ht] at hval
 obtain ⟨cs, rfl, hsz, _⟩ := hval
 obtain ⟨fuel, hf⟩ := h
 obtain ⟨xs, n, _, _, hl, hlen, hx⟩ := DataW.trod_struct ht hf
 rw [k0] at hsz
 have at' : ∀ (j : Nat) (f : Field), #[f0, f1, f2, f3, f4, f5, f6][j]? = some f -> ∃ y, DataW.trod enc P W 0 (fun _ => true) true n f.type ((cs.toList.drop f.offset).take (P.cellsOf f.type)) = some y := by
  intro j f hj
  have hj' := (Array.getElem?_eq_some_iff.1 hj).1
  have hj2 : j < xs.length := by rw [hlen]; simpa using hj'
  have := hx j f hj
  rw [List.getElem?_eq_getElem hj2] at this
  exact ⟨_, this⟩
 obtain ⟨y0, q0⟩ := at' 0 f0 rfl
 obtain ⟨y1, q1⟩ := at' 1 f1 rfl
 obtain ⟨y2, q2⟩ := at' 2 f2 rfl
 obtain ⟨y3, q3⟩ := at' 3 f3 rfl
 obtain ⟨y4, q4⟩ := at' 4 f4 rfl
 obtain ⟨y5, q5⟩ := at' 5 f5 rfl
 obtain ⟨y6, q6⟩ := at' 6 f6 rfl
 rw [o0, c0] at q0
 rw [o1, c1] at q1
 rw [o2, c2] at q2
 rw [o3, c3] at q3
 rw [o4, c4] at q4
 rw [o5, c5] at q5
 rw [o6, c6] at q6
 obtain ⟨z0, l0, e0, v0, i0⟩ := cell_l2 u0 w2 wg k1 k5 q0
 obtain ⟨z1, l1, e1, v1, i1⟩ := cell_l4 u1 w4 wg k2 k5 q1
 obtain ⟨z2, l2, e2, v2, i2⟩ := cell_l3 u2 w3 wg k3 k5 q2
 obtain ⟨z3, l3, e3, v3, i3⟩ := cell_ints u3 wg k5 q3
 obtain ⟨z4, l4, e4, v4, i4⟩ := cell_ints u4 wg k5 q4
 obtain ⟨z5, l5, e5, v5, i5⟩ := cell_cp u5 ws wg k4 k5 q5
 obtain ⟨l6, n6, e6, i6⟩ := cell_arr u6 wg k5 (by simp [hsz]) q6
 obtain ⟨o0, o1, o2, o3, o4, o5, o6, o7, o8, o9, rfl⟩ : ∃ a b c d e f g h i j, l6 = [a, b, c, d, e, f, g, h, i, j] := by
  match l6, n6 with
  | [a, b, c, d, e, f, g, h, i, j], _ => exact ⟨a, b, c, d, e, f, g, h, i, j, rfl⟩
 refine ⟨⟨z0, z1, z2, z3, z4, z5, o0, o1, o2, o3, o4, o5, o6, o7, o8, o9⟩, ⟨l0, l1, l2, l3, l4, l5, o0, o1, o2, o3, o4, o5, o6, o7, o8, o9⟩, ?_, ⟨v0, v1, v2, v3, v4, v5, rfl, rfl, rfl, rfl, rfl, rfl, rfl, rfl, rfl, rfl⟩, ⟨i0, i1, fun l hl => (i2 l hl).2.2, i5, i6 _ (by simp), i6 _ (by simp), i6 _ (by simp), i6 _ (by simp), i6 _ (by simp), i6 _ (by simp), i6 _ (by simp), i6 _ (by simp), i6 _ (by simp), i6 _ (by simp)⟩⟩
 congr 1
 rcases cs with ⟨cs⟩
 congr 1
 simp only at e0 e1 e2 e3 e4 e5 e6 hsz
 have hs16 : cs.length = 16 := hsz
 match cs, hs16 with
 | [d0, d1, d2, d3, d4, d5, d6, d7, d8, d9, d10, d11, d12, d13, d14, d15], _ =>
  simp at e0 e1 e2 e3 e4 e5 e6
  obtain ⟨r6, r7, r8, r9, r10, r11, r12, r13, r14, r15⟩ := e6
  subst e0 e1 e2 e3 e4 e5 r6 r7 r8 r9 r10 r11 r12 r13 r14 r15
  rfl
theorem arg_l3 {r : Reach} {b0 : Nat} {t e g : TypeId} {v : Value} {d : DataW H} {ps : List MemPlace} (ht : P.underlying t = some (.slice e)) (he : P.underlying e = some (.array 3 g)) (hg : P.underlying g = some (.int .i64)) (ce : P.cellsOf e = 3) (cg : P.cellsOf g = 1)
  (hval : Value.okWide P W r b0 t v) (h : DataW.Trod enc P W 0 (fun _ => true) true t v d ps) : ∃ (q : Sl) (l : List (Int × Int × Int)), v = .slice q.p q.l q.c /\ Vw 3 encT3 W q l /\ ∀ a ∈ l, I64 a.1 /\ I64 a.2.1 /\ I64 a.2.2 := by
 obtain ⟨a, len, cap, rfl⟩ := okWide_slice ht hval
 obtain ⟨fuel, hf⟩ := h
 obtain ⟨q, l, h1, h2, h3⟩ := cell_l3 ht he hg ce cg hf
 simp only [Value.cells, List.cons.injEq, and_true] at h1
 exact ⟨q, l, h1, h2, h3⟩
theorem arg_lots {r : Reach} {b0 : Nat} {t e : TypeId} {v : Value} {d : DataW H} {ps : List MemPlace} (ht : P.underlying t = some (.slice e)) (he : P.underlying e = some (.int .i64)) (hc : P.cellsOf e = 1)
  (hval : Value.okWide P W r b0 t v) (h : DataW.Trod enc P W 0 (fun _ => true) true t v d ps) :
  ∃ (q : Sl) (l : List Int), v = .slice q.p q.l q.c /\ Vw 1 encI W q l /\ (∀ n ∈ l, I64 n) /\ ∀ R b, P.bytesOf e = b -> (∀ n ∈ d.weights P t, n <= R) -> l.length * b <= R := by
 obtain ⟨q, l, h1, h2, h3, _, h5⟩ := arg_viR ht he hc hval h
 exact ⟨q, l, h1, h2, fun n hn => wf_i64 (h3 n hn), h5⟩
end
end Go.Proofs.YtfkmpbpkahcogaaGreatDoor
namespace Pw
open Go
theorem fm_set {α : Type} {n : Nat} {enc : α -> List Value} (hn : ∀ a, (enc a).length = n) : ∀ (l : List α) (i k : Nat) (a a' : α) (v : Value), l[i]? = some a -> k < n -> enc a' = (enc a).set k v -> (l.flatMap enc).set (i * n + k) v = (l.set i a').flatMap enc
 | [], i, k, a, a', v, h, _, _ => by simp at h
 | b :: l, 0, k, a, a', v, h, hk, he => by
  simp at h
  subst h
  simp only [List.flatMap_cons, Nat.zero_mul, Nat.zero_add, List.set_cons_zero, he]
  rw [List.set_append_left _ _ (by rw [hn]; exact hk)]
 | b :: l, i + 1, k, a, a', v, h, hk, he => by
  simp only [List.getElem?_cons_succ] at h
  have := fm_set hn l i k a a' v h hk he
  simp only [List.flatMap_cons, List.set_cons_succ]
  rw [List.set_append_right _ _ (by rw [hn, Nat.add_mul]; omega), hn, ← this]
  congr 2
  rw [Nat.add_mul]; omega
theorem Ow.put {α : Type} {n : Nat} {enc : α -> List Value} {w : World} {s : Sl} {l : List α} (h : Ow n enc w s l) (hn : ∀ a, (enc a).length = n) {i k : Nat} {a' : α} {v : Value} (hi : i < l.length) (hk : k < n) (he : enc a' = (enc l[i]).set k v) :
  ∃ ad, s.p = some ad /\ wrOk w ((ad.add (i * n)).add k) /\ Ow n enc (w.setCell ((ad.add (i * n)).add k) v) s (l.set i a') /\ Fr (inB s) w (w.setCell ((ad.add (i * n)).add k) v) := by
 have hl := h.len
 rcases h.own.2 with ⟨h1, h2, h3⟩ | ⟨b, cs, h1, h2, h3, h4, h5⟩
 ·omega
 ·have hlen := fm_length hn l
  have hlt : i * n + k < l.length * n := by
   have := Nat.mul_le_mul_right n (show i + 1 <= l.length by omega)
   rw [Nat.add_mul] at this
   omega
  have hcs : l.length * n <= cs.length := by
   rw [h3]
   exact Nat.mul_le_mul_right n (by omega)
  refine ⟨_, h1, ?_⟩
  simp only [add_mk, Nat.zero_add]
  refine ⟨h2.wr (by omega), ⟨by simp [hl], by simp [fm_length hn, hl], .inr ⟨b, _, h1, h2.set (i * n + k) v, by simp [h3], h4, ?_⟩⟩, Fr.set ⟨_, h1, rfl⟩⟩
  rw [← fm_set hn l i k l[i] a' v (List.getElem?_eq_getElem hi) hk he, List.length_set, List.take_set, h5]
end Pw
namespace Go.Proofs.YtfkmpbpkahcogaaGreatDoor
open Go Pw Dp
def wr64 (n : Int) : Int := IntKind.wrap .i64 n
theorem wr64_I (n : Int) : I64 (wr64 n) := by unfold wr64 I64; simp [IntKind.wrap, IntKind.bits, IntKind.signed]; omega
def editC (t : Td) (n : Nat) (q : Int) : Int -> Td
 | 0 => { t with lots := if h : n < t.lots.length then t.lots.set n (t.lots[n].1, wr64 (t.lots[n].2 + q)) else t.lots }
 | 1 => { t with crit := if h : n < t.crit.length then t.crit.set n { t.crit[n] with high := wr64 (t.crit[n].high + q) } else t.crit }
 | 2 => { t with reqs := if h : n < t.reqs.length then t.reqs.set n { t.reqs[n] with val := wr64 (t.reqs[n].val + q) } else t.reqs }
 | 3 => { t with high := wr64 (t.high + q) }
 | 4 => { t with fm := .op 0 t.fm (.name (namP q)) }
 | 5 => { t with ties := t.ties ++ [namP q] }
 | 6 => { t with most := wr64 (t.most + q) }
 | 7 => { t with combos := t.combos ++ [[(n : Int), q]] }
 | 8 => { t with budget := wr64 (t.budget + q) }
 | 9 => { t with t2 := wr64 (t.t2 + q) }
 | 10 => { t with lots := t.lots ++ [((n : Int), q)] }
 | 11 => { t with crit := if n < t.crit.length then t.crit.take n ++ t.crit.drop (n + 1) else t.crit }
 | _ => t
def editP (t : Td) (q0 q1 q2 : Int) : Td := editC t (modP q1 7).toNat q2 (modP q0 12)
structure FitK (k : Nat) (t : Td) : Prop where
 fp : t.fm.parts + 2 * k <= 2 ^ 29
 name : t.name.length <= 2 ^ 20
 lots : t.lots.length + k <= 2 ^ 19
 crit : t.crit.length <= 2 ^ 19
 reqs : t.reqs.length <= 2 ^ 19
 ties : t.ties.length + k <= 2 ^ 19
 combos : t.combos.length + k <= 2 ^ 19
 lot : ∀ l ∈ t.lots, I64 l.1 /\ I64 l.2
 cr : ∀ c ∈ t.crit, c.name.length <= 2 ^ 20 /\ I64 c.kind /\ I64 c.low /\ I64 c.high
 rq : ∀ r ∈ t.reqs, r.name.length <= 2 ^ 20 /\ r.rel.length <= 2 ^ 20 /\ I64 r.val
 tie : ∀ s ∈ t.ties, s.length <= 2 ^ 20
 combo : ∀ l ∈ t.combos, l.length <= 2 ^ 20 /\ ∀ i ∈ l, I64 i
 low : I64 t.low
 high : I64 t.high
 most : I64 t.most
 budget : I64 t.budget
 t1 : I64 t.t1
 t2 : I64 t.t2
 t3 : I64 t.t3
 t4 : I64 t.t4
 t5 : I64 t.t5
theorem FitK.fit {k : Nat} {t : Td} (h : FitK k t) : Fit t :=
 { h with fp := by have := h.fp; omega, lots := by have := h.lots; omega, crit := by have := h.crit; omega, reqs := by have := h.reqs; omega, ties := by have := h.ties; omega, combos := by have := h.combos; omega }
theorem tdP_fitK {p : Pn} (h : PFit p) : FitK 100 (tdP p) := by
 have hF := tdP_fit h
 have := made_parts p.form
 exact { hF with fp := by simp only [tdP]; omega, lots := by simp [tdP]; omega, crit := by simp [tdP]; omega, reqs := by simp [tdP]; omega, ties := by simp [tdP]; omega, combos := by simp [tdP]; omega }
theorem edit_fit {k : Nat} {t : Td} (h : FitK (k + 1) t) {q0 q1 q2 : Int} (hq : I64 q2) : FitK k (editP t q0 q1 q2) := by
 have hn := modP_in q1 (m := 7) (by decide)
 have hc := modP_in q0 (m := 12) (by decide)
 have h1 := h.fp; have h2 := h.lots; have h3 := h.crit; have h4 := h.reqs; have h5 := h.ties; have h6 := h.combos
 have hnI : I64 ((modP q1 7).toNat : Int) := by unfold I64; omega
 have h0 : FitK k t := { h with fp := by omega, lots := by omega, ties := by omega, combos := by omega }
 unfold editP
 generalize (modP q1 7).toNat = n at hnI
 rcases (show modP q0 12 = 0 \/ modP q0 12 = 1 \/ modP q0 12 = 2 \/ modP q0 12 = 3 \/ modP q0 12 = 4 \/ modP q0 12 = 5 \/ modP q0 12 = 6 \/ modP q0 12 = 7 \/ modP q0 12 = 8 \/ modP q0 12 = 9 \/ modP q0 12 = 10 \/ modP q0 12 = 11 by omega) with e | e | e | e | e | e | e | e | e | e | e | e <;> rw [e] <;> unfold editC <;> clear e
 ·by_cases hl : n < t.lots.length
  ·refine { h0 with lots := by simp [hl]; omega, lot := fun l hm => ?_ }
   simp only [hl, dif_pos] at hm
   rcases List.mem_or_eq_of_mem_set hm with hm | rfl
   ·exact h.lot l hm
   ·exact ⟨(h.lot _ (List.getElem_mem hl)).1, wr64_I _⟩
  ·simp only [hl, dif_neg, not_false_iff]
   exact h0
 ·by_cases hl : n < t.crit.length
  ·refine { h0 with crit := by simp [hl]; omega, cr := fun l hm => ?_ }
   simp only [hl, dif_pos] at hm
   rcases List.mem_or_eq_of_mem_set hm with hm | rfl
   ·exact h.cr l hm
   ·have := h.cr _ (List.getElem_mem hl)
    exact ⟨this.1, this.2.1, this.2.2.1, wr64_I _⟩
  ·simp only [hl, dif_neg, not_false_iff]
   exact h0
 ·by_cases hl : n < t.reqs.length
  ·refine { h0 with reqs := by simp [hl]; omega, rq := fun l hm => ?_ }
   simp only [hl, dif_pos] at hm
   rcases List.mem_or_eq_of_mem_set hm with hm | rfl
   ·exact h.rq l hm
   ·have := h.rq _ (List.getElem_mem hl)
    exact ⟨this.1, this.2.1, wr64_I _⟩
  ·simp only [hl, dif_neg, not_false_iff]
   exact h0
 ·exact { h0 with high := wr64_I _ }
 ·exact { h0 with fp := by simp only [Fm.parts]; omega }
 ·refine { h0 with ties := by simp; omega, tie := fun s hs => ?_ }
  rcases List.mem_append.1 hs with hs | hs
  ·exact h.tie s hs
  ·rw [List.mem_singleton.1 hs]
   exact Nat.le_trans (namP_len _) (by decide)
 ·exact { h0 with most := wr64_I _ }
 ·refine { h0 with combos := by simp; omega, combo := fun s hs => ?_ }
  rcases List.mem_append.1 hs with hs | hs
  ·exact h.combo s hs
  ·rw [List.mem_singleton.1 hs]
   refine ⟨by show (2 : Nat) <= _; decide, fun i hi => ?_⟩
   simp only [List.mem_cons, List.not_mem_nil, or_false] at hi
   rcases hi with rfl | rfl
   ·exact hnI
   ·exact hq
 ·exact { h0 with budget := wr64_I _ }
 ·exact { h0 with t2 := wr64_I _ }
 ·refine { h0 with lots := by simp; omega, lot := fun s hs => ?_ }
  rcases List.mem_append.1 hs with hs | hs
  ·exact h.lot s hs
  ·rw [List.mem_singleton.1 hs]
   exact ⟨hnI, hq⟩
 ·by_cases hl : n < t.crit.length
  ·refine { h0 with crit := by simp [hl]; omega, cr := fun l hm => ?_ }
   simp only [hl, if_pos] at hm
   rcases List.mem_append.1 hm with hm | hm
   ·exact h.cr l (List.mem_of_mem_take hm)
   ·exact h.cr l (List.mem_of_mem_drop hm)
  ·simp only [hl, if_false]
   exact h0
end Go.Proofs.YtfkmpbpkahcogaaGreatDoor
namespace Go.Proofs.YtfkmpbpkahcogaaGreatDoor
open Go Pw Dp
structure RS0 (w : World) (x : T43) (t : Td) (Z : List Sl) : Prop where
 name : x.f0 = ofL t.name
 low : x.f4 = t.low
 high : x.f5 = t.high
 fm : ∃ P, XQ P w t.fm ⟨x.f6, x.f7, x.f8, x.f9, x.f10⟩
 most : x.f12 = t.most
 combos : Ow 1 encZ w x.f13 Z
 io : IoZ w Z t.combos
 budget : x.f14 = t.budget
 t1 : x.f15 = t.t1
 t2 : x.f16 = t.t2
 t3 : x.f17 = t.t3
 t4 : x.f18 = t.t4
 t5 : x.f19 = t.t5
theorem XQ.frE {P : Nat -> Prop} {w w' : World} (hf : Fr F0 w w') : ∀ {e : Fm} {c : XC}, XQ P w e c -> XQ P w' e c
 | .num _ _, _, h => h
 | .name _, _, h => h
 | .op _ _ _, _, ⟨ca, cb, i, h1, h2, h5, hi, h3, h4⟩ => ⟨ca, cb, i, h1, h2, hf.row h5 fun h => h, hi, h3.frE hf, h4.frE hf⟩
theorem IoZ.fr {w w' : World} {Z : List Sl} {L : List (List Int)} (h : IoZ w Z L) (hf : Fr F0 w w') : IoZ w' Z L := ⟨h.1, fun i a b => (h.2 i a b).fr hf⟩
theorem RS0.fr {w w' : World} {x : T43} {t : Td} {Z : List Sl} (h : RS0 w x t Z) (hf : Fr F0 w w') : RS0 w' x t Z := { h with fm := h.fm.imp fun _ hx => hx.frE hf, combos := h.combos.fr hf, io := h.io.fr hf }
structure TE (lo : Nat) (w : World) (x : T43) (t : Td) (Z : List Sl) : Prop where
 tw : TW w x t Z
 oz : Ow 1 encZ w x.f13 Z
 nw : ∀ b, inB x.f1 b \/ inB x.f2 b \/ inB x.f3 b \/ inB x.f11 b -> lo <= b
theorem TE.of {lo : Nat} {w : World} {x : T43} {t : Td} {Z : List Sl} (R : RS0 w x t Z) (o1 : Ow 2 encL w x.f1 t.lots) (o2 : Ow 5 encC w x.f2 t.crit) (o3 : Ow 3 encR w x.f3 t.reqs) (o4 : Ow 1 encB w x.f11 t.ties) (ne : ∀ s ∈ t.ties, s ≠ []) (nw : ∀ b, inB x.f1 b \/ inB x.f2 b \/ inB x.f3 b \/ inB x.f11 b -> lo <= b) : TE lo w x t Z := by
 obtain ⟨P, hx⟩ := R.fm
 exact ⟨⟨⟨R.name, o1.vw, o2.vw, o3.vw, R.low, R.high, hx.xp, o4.vw, R.most, R.budget, R.t1, R.t2, R.t3, R.t4, R.t5⟩, o1, o2, o3, o4, ⟨P, hx⟩, ne, R.io⟩, R.combos, nw⟩
theorem TE.tp {lo : Nat} {w : World} {x : T43} {t : Td} {Z : List Sl} (h : TE lo w x t Z) : TP w x t := h.tw.tp.tp ⟨Z, h.oz.vw, h.tw.io.inz⟩
structure EO (w0 w : World) (z : T43) (bt bq b4 : Nat) (qs : List Value) (t : Td) : Prop where
 m : Mem w0 w [(b4, zT), (bq, qs), (bt, z.cs)]
 o1 : Ow 2 encL w z.f1 t.lots
 o2 : Ow 5 encC w z.f2 t.crit
 o3 : Ow 3 encR w z.f3 t.reqs
 o4 : Ow 1 encB w z.f11 t.ties
 n : ∀ b, inB z.f1 b \/ inB z.f2 b \/ inB z.f3 b \/ inB z.f11 b -> w0.heap.size <= b /\ b ≠ b4 /\ b ≠ bq /\ b ≠ bt
 d1 : ∀ b, inB z.f1 b -> ¬ inB z.f2 b /\ ¬ inB z.f3 b /\ ¬ inB z.f11 b
 d2 : ∀ b, inB z.f2 b -> ¬ inB z.f3 b /\ ¬ inB z.f11 b
 d3 : ∀ b, inB z.f3 b -> ¬ inB z.f11 b
 ne : ∀ s ∈ t.ties, s ≠ []
section
variable {w0 w u : World} {z z' : T43} {t t' : Td} {bt bq b4 : Nat} {qs : List Value} {K : T43 -> World -> Prop} {Z Z' : List Sl}
theorem EO.fr (h : EO w0 w z bt bq b4 qs t) (hf : Fr F0 w u) : EO w0 u z bt bq b4 qs t :=
 { h with m := h.m.fr hf, o1 := h.o1.fr hf, o2 := h.o2.fr hf, o3 := h.o3.fr hf, o4 := h.o4.fr hf }
theorem Edit_k0_spec {L : List (Nat × List Value)} (m : Mem w0 u L) (h4 : (b4, zT) ∈ L) (ht : (bt, z'.cs) ∈ L) (hT : ∀ u', Fr (fun b => b = b4) u u' -> Fr F0 w0 u' -> TE w0.heap.size u' z' t' Z') (hK : ∀ w' z Z, Fr F0 w0 w' -> TE w0.heap.size w' z t' Z -> K z w') : z1i_k0 ⟨bt, 0, none⟩ ⟨b4, 0, none⟩ K u := by
 refine ⟨?_⟩
 unfold z1i_k0d
 refine T43.ld_row (m.2.1 _ ht) (stN_fr (m.2.1 _ h4) rfl fun w' hf hr' => ?_)
 have f0 : Fr F0 w0 w' := m.1.trans hf fun b hb hlt => by have := m.2.2.2 _ h4; simp only at this; omega
 exact T43.ld_row hr' (hK w' z' Z' f0 (hT w' hf f0))
theorem EO.tp (h : EO w0 w z bt bq b4 qs t) (hf : Fr (fun b => b = bt \/ b = b4) w u) (R : RS0 u z' t' Z') (e1 : z'.f1 = z.f1) (e2 : z'.f2 = z.f2) (e3 : z'.f3 = z.f3) (e4 : z'.f11 = z.f11) (g1 : t'.lots = t.lots) (g2 : t'.crit = t.crit) (g3 : t'.reqs = t.reqs) (g4 : t'.ties = t.ties) : TE w0.heap.size u z' t' Z' := by
 have hn := h.n
 refine TE.of R ?_ ?_ ?_ ?_ (by rw [g4]; exact h.ne) (by rw [e1, e2, e3, e4]; exact fun b hb => (hn b hb).1)
 ·rw [e1, g1]; exact h.o1.frF hf fun b hb hF => by have := hn b (.inl hb); omega
 ·rw [e2, g2]; exact h.o2.frF hf fun b hb hF => by have := hn b (.inr (.inl hb)); omega
 ·rw [e3, g3]; exact h.o3.frF hf fun b hb hF => by have := hn b (.inr (.inr (.inl hb))); omega
 ·rw [e4, g4]; exact h.o4.frF hf fun b hb hF => by have := hn b (.inr (.inr (.inr hb))); omega
theorem Edit_num {i : Nat} {v : Value} (h : EO w0 w z bt bq b4 qs t) (hi : i < 20) (R : ∀ u, Fr F0 w0 u -> RS0 u z' t' Z) (hz : z.cs.set i v = z'.cs) (e1 : z'.f1 = z.f1) (e2 : z'.f2 = z.f2) (e3 : z'.f3 = z.f3) (e4 : z'.f11 = z.f11) (g1 : t'.lots = t.lots) (g2 : t'.crit = t.crit) (g3 : t'.reqs = t.reqs) (g4 : t'.ties = t.ties)
  (hK : ∀ w' z Z, Fr F0 w0 w' -> TE w0.heap.size w' z t' Z -> K z w') : wrOk w ⟨bt, i, none⟩ /\ z1i_k0 ⟨bt, 0, none⟩ ⟨b4, 0, none⟩ K (w.setCell ⟨bt, i, none⟩ v) := by
 have hm := h.m.set (i := i) (v := v) 2 rfl
 rw [hz] at hm
 refine ⟨h.m.wr 2 rfl (by rw [Nat.blt_eq]; exact hi), Edit_k0_spec (Z' := Z) hm (z' := z') (by simp) (by simp) (fun u' hf f0 => ?_) hK⟩
 exact h.tp ((Fr.set (F := fun b => b = bt \/ b = b4) (.inl rfl)).trans hf fun b hb _ => .inr hb) (R u' f0) e1 e2 e3 e4 g1 g2 g3 g4
theorem Edit_no (h : EO w0 w z bt bq b4 qs t) (R : ∀ u, Fr F0 w0 u -> RS0 u z t Z) (hK : ∀ w' z Z, Fr F0 w0 w' -> TE w0.heap.size w' z t Z -> K z w') : z1i_k0 ⟨bt, 0, none⟩ ⟨b4, 0, none⟩ K w := by
 exact Edit_k0_spec (z' := z) (Z' := Z) h.m (by simp) (by simp) (fun u' hf f0 => h.tp (hf.mono fun b hb => .inr hb) (R u' f0) rfl rfl rfl rfl rfl rfl rfl rfl) hK
end
end Go.Proofs.YtfkmpbpkahcogaaGreatDoor
namespace Pw
open Go
theorem Vw.drop {α : Type} {n : Nat} {enc : α -> List Value} {w : World} {s : Sl} {l : List α} (h : Vw n enc w s l) (hn : ∀ a, (enc a).length = n) {j : Nat} (hj : j <= l.length) : Vw n enc w ⟨subP s.p j s.c n, s.l - j, s.c - j⟩ (l.drop j) := by
 have hl := h.len
 have hc := h.cap
 obtain ⟨h1, h2⟩ := h.rd
 refine ⟨by simp; omega, by simp; omega, by rw [fm_length hn, List.length_drop, hl], ?_⟩
 simp only
 have hd : ∀ i, i < ((l.drop j).flatMap enc).length -> ((l.drop j).flatMap enc)[i]? = (l.flatMap enc)[j * n + i]? := by
  intro i hi
  have e : l.flatMap enc = (l.take j).flatMap enc ++ (l.drop j).flatMap enc := by rw [← List.flatMap_append, List.take_append_drop]
  have hlen : ((l.take j).flatMap enc).length = j * n := by rw [fm_length hn]; simp; rw [Nat.min_eq_left hj]
  rw [e, List.getElem?_append_right (by omega), hlen]
  congr 1; omega
 have hlen : ((l.drop j).flatMap enc).length = (l.length - j) * n := by rw [fm_length hn, List.length_drop]
 unfold subP
 cases hp : s.p with
 | none =>
  rw [hp] at h2
  simp only at h2
  have : (if s.c = j then (none : Option Addr) else Option.map (fun x : Addr => x.add (j * n)) none) = none := by split <;> rfl
  rw [this]
  simp only
  have := Nat.mul_le_mul_right n (show s.l - j <= s.l by omega)
  omega
 | some a =>
  rw [hp] at h2
  simp only at h2
  by_cases hcj : s.c = j
  ·rw [if_pos hcj]
   simp only
   intro i hi
   have : l.length - j = 0 := by omega
   rw [this] at hlen
   omega
  ·rw [if_neg hcj]
   simp only [Option.map_some]
   intro i hi
   have h3 := hd i hi
   rw [List.getElem?_eq_getElem hi] at h3
   obtain ⟨h4, h5⟩ := List.getElem?_eq_some_iff.1 h3.symm
   rw [add_add, h2 _ h4, h5]
end Pw
namespace Go.Proofs.YtfkmpbpkahcogaaGreatDoor
open Go Pw Dp
section
variable {w0 w u : World} {z z' : T43} {t t' : Td} {bt bq b4 : Nat} {qs : List Value} {K : T43 -> World -> Prop} {Z Z' : List Sl}
theorem EO.tp1 (h : EO w0 w z bt bq b4 qs t) (hf : Fr (fun b => inB z.f1 b \/ b = bt \/ b = b4) w u) (R : RS0 u z' t' Z') (hv : Ow 2 encL u z'.f1 t'.lots) (e2 : z'.f2 = z.f2) (e3 : z'.f3 = z.f3) (e4 : z'.f11 = z.f11) (g2 : t'.crit = t.crit) (g3 : t'.reqs = t.reqs) (g4 : t'.ties = t.ties) (nv : ∀ b, inB z'.f1 b -> w0.heap.size <= b) : TE w0.heap.size u z' t' Z' := by
 have hn := h.n
 refine TE.of R hv ?_ ?_ ?_ (by rw [g4]; exact h.ne) (fun b hb => by rcases hb with hb | hb | hb | hb; exact nv b hb; exact (hn b (.inr (.inl (e2 ▸ hb)))).1; exact (hn b (.inr (.inr (.inl (e3 ▸ hb))))).1; exact (hn b (.inr (.inr (.inr (e4 ▸ hb))))).1)
 ·rw [e2, g2]; exact h.o2.frF hf fun b hb hF => hF.elim (fun h1 => (h.d1 b h1).1 hb) fun _ => by have := hn b (.inr (.inl hb)); omega
 ·rw [e3, g3]; exact h.o3.frF hf fun b hb hF => hF.elim (fun h1 => (h.d1 b h1).2.1 hb) fun _ => by have := hn b (.inr (.inr (.inl hb))); omega
 ·rw [e4, g4]; exact h.o4.frF hf fun b hb hF => hF.elim (fun h1 => (h.d1 b h1).2.2 hb) fun _ => by have := hn b (.inr (.inr (.inr hb))); omega
theorem EO.tp2 (h : EO w0 w z bt bq b4 qs t) (hf : Fr (fun b => inB z.f2 b \/ b = bt \/ b = b4) w u) (R : RS0 u z' t' Z') (hv : Ow 5 encC u z'.f2 t'.crit) (e1 : z'.f1 = z.f1) (e3 : z'.f3 = z.f3) (e4 : z'.f11 = z.f11) (g1 : t'.lots = t.lots) (g3 : t'.reqs = t.reqs) (g4 : t'.ties = t.ties) (nv : ∀ b, inB z'.f2 b -> w0.heap.size <= b) : TE w0.heap.size u z' t' Z' := by
 have hn := h.n
 refine TE.of R ?_ hv ?_ ?_ (by rw [g4]; exact h.ne) (fun b hb => by rcases hb with hb | hb | hb | hb; exact (hn b (.inl (e1 ▸ hb))).1; exact nv b hb; exact (hn b (.inr (.inr (.inl (e3 ▸ hb))))).1; exact (hn b (.inr (.inr (.inr (e4 ▸ hb))))).1)
 ·rw [e1, g1]; exact h.o1.frF hf fun b hb hF => hF.elim (fun h1 => (h.d1 b hb).1 h1) fun _ => by have := hn b (.inl hb); omega
 ·rw [e3, g3]; exact h.o3.frF hf fun b hb hF => hF.elim (fun h1 => (h.d2 b h1).1 hb) fun _ => by have := hn b (.inr (.inr (.inl hb))); omega
 ·rw [e4, g4]; exact h.o4.frF hf fun b hb hF => hF.elim (fun h1 => (h.d2 b h1).2 hb) fun _ => by have := hn b (.inr (.inr (.inr hb))); omega
theorem EO.tp3 (h : EO w0 w z bt bq b4 qs t) (hf : Fr (fun b => inB z.f3 b \/ b = bt \/ b = b4) w u) (R : RS0 u z' t' Z') (hv : Ow 3 encR u z'.f3 t'.reqs) (e1 : z'.f1 = z.f1) (e2 : z'.f2 = z.f2) (e4 : z'.f11 = z.f11) (g1 : t'.lots = t.lots) (g2 : t'.crit = t.crit) (g4 : t'.ties = t.ties) (nv : ∀ b, inB z'.f3 b -> w0.heap.size <= b) : TE w0.heap.size u z' t' Z' := by
 have hn := h.n
 refine TE.of R ?_ ?_ hv ?_ (by rw [g4]; exact h.ne) (fun b hb => by rcases hb with hb | hb | hb | hb; exact (hn b (.inl (e1 ▸ hb))).1; exact (hn b (.inr (.inl (e2 ▸ hb)))).1; exact nv b hb; exact (hn b (.inr (.inr (.inr (e4 ▸ hb))))).1)
 ·rw [e1, g1]; exact h.o1.frF hf fun b hb hF => hF.elim (fun h1 => (h.d1 b hb).2.1 h1) fun _ => by have := hn b (.inl hb); omega
 ·rw [e2, g2]; exact h.o2.frF hf fun b hb hF => hF.elim (fun h1 => (h.d2 b hb).1 h1) fun _ => by have := hn b (.inr (.inl hb)); omega
 ·rw [e4, g4]; exact h.o4.frF hf fun b hb hF => hF.elim (fun h1 => h.d3 b h1 hb) fun _ => by have := hn b (.inr (.inr (.inr hb))); omega
theorem EO.tp4 (h : EO w0 w z bt bq b4 qs t) (hf : Fr (fun b => inB z.f11 b \/ b = bt \/ b = b4) w u) (R : RS0 u z' t' Z') (hv : Ow 1 encB u z'.f11 t'.ties) (e1 : z'.f1 = z.f1) (e2 : z'.f2 = z.f2) (e3 : z'.f3 = z.f3) (g1 : t'.lots = t.lots) (g2 : t'.crit = t.crit) (g3 : t'.reqs = t.reqs) (ne : ∀ s ∈ t'.ties, s ≠ []) (nv : ∀ b, inB z'.f11 b -> w0.heap.size <= b) : TE w0.heap.size u z' t' Z' := by
 have hn := h.n
 refine TE.of R ?_ ?_ ?_ hv ne (fun b hb => by rcases hb with hb | hb | hb | hb; exact (hn b (.inl (e1 ▸ hb))).1; exact (hn b (.inr (.inl (e2 ▸ hb)))).1; exact (hn b (.inr (.inr (.inl (e3 ▸ hb))))).1; exact nv b hb)
 ·rw [e1, g1]; exact h.o1.frF hf fun b hb hF => hF.elim (fun h1 => (h.d1 b hb).2.2 h1) fun _ => by have := hn b (.inl hb); omega
 ·rw [e2, g2]; exact h.o2.frF hf fun b hb hF => hF.elim (fun h1 => (h.d2 b hb).2 h1) fun _ => by have := hn b (.inr (.inl hb)); omega
 ·rw [e3, g3]; exact h.o3.frF hf fun b hb hF => hF.elim (fun h1 => h.d3 b hb h1) fun _ => by have := hn b (.inr (.inr (.inl hb))); omega
theorem Edit_put1 {n k : Nat} {a' : Int × Int} {v : Value} (h : EO w0 w z bt bq b4 qs t) (R : ∀ u, Fr F0 w0 u -> RS0 u z { t with lots := t.lots.set n a' } Z) (hn : n < t.lots.length) (hk : k < 2) (he : encL a' = (encL t.lots[n]).set k v) (hK : ∀ w' z Z, Fr F0 w0 w' -> TE w0.heap.size w' z { t with lots := t.lots.set n a' } Z -> K z w') :
  nz z.f1.p fun a => (0 <= (n : Int) /\ (n : Int) < (z.f1.l : Nat)) /\ wrOk w ((a.add ((n : Int).toNat * 2)).add k) /\ z1i_k0 ⟨bt, 0, none⟩ ⟨b4, 0, none⟩ K (w.setCell ((a.add ((n : Int).toNat * 2)).add k) v) := by
 obtain ⟨ad, hp, hw, ho, hf⟩ := h.o1.put encL_length hn hk he
 have hl := h.o1.len
 rw [hp]
 refine ⟨⟨by omega, by omega⟩, hw, Edit_k0_spec (z' := z) (Z' := Z) (h.m.frF hf (fun p hp' hb => ?_) fun b hb => (h.n b (.inl hb)).1) (by simp) (by simp) (fun u' hf' f0 => ?_) hK⟩
 ·have := h.n p.1 (.inl hb)
  simp only [List.mem_cons, List.not_mem_nil, or_false] at hp'
  rcases hp' with rfl | rfl | rfl <;> simp at this
 ·exact h.tp1 ((hf.mono fun b hb => .inl hb).trans hf' fun b hb _ => .inr (.inr hb)) (R u' f0) (ho.frF hf' fun b hb e => (h.n b (.inl hb)).2.1 e) rfl rfl rfl rfl rfl rfl (fun b hb => (h.n b (.inl hb)).1)
theorem Edit_put2 {n k : Nat} {a' : Cr} {v : Value} (h : EO w0 w z bt bq b4 qs t) (R : ∀ u, Fr F0 w0 u -> RS0 u z { t with crit := t.crit.set n a' } Z) (hn : n < t.crit.length) (hk : k < 5) (he : encC a' = (encC t.crit[n]).set k v) (hK : ∀ w' z Z, Fr F0 w0 w' -> TE w0.heap.size w' z { t with crit := t.crit.set n a' } Z -> K z w') :
  nz z.f2.p fun a => (0 <= (n : Int) /\ (n : Int) < (z.f2.l : Nat)) /\ wrOk w ((a.add ((n : Int).toNat * 5)).add k) /\ z1i_k0 ⟨bt, 0, none⟩ ⟨b4, 0, none⟩ K (w.setCell ((a.add ((n : Int).toNat * 5)).add k) v) := by
 obtain ⟨ad, hp, hw, ho, hf⟩ := h.o2.put encC_length hn hk he
 have hl := h.o2.len
 rw [hp]
 refine ⟨⟨by omega, by omega⟩, hw, Edit_k0_spec (z' := z) (Z' := Z) (h.m.frF hf (fun p hp' hb => ?_) fun b hb => (h.n b (.inr (.inl hb))).1) (by simp) (by simp) (fun u' hf' f0 => ?_) hK⟩
 ·have := h.n p.1 (.inr (.inl hb))
  simp only [List.mem_cons, List.not_mem_nil, or_false] at hp'
  rcases hp' with rfl | rfl | rfl <;> simp at this
 ·exact h.tp2 ((hf.mono fun b hb => .inl hb).trans hf' fun b hb _ => .inr (.inr hb)) (R u' f0) (ho.frF hf' fun b hb e => (h.n b (.inr (.inl hb))).2.1 e) rfl rfl rfl rfl rfl rfl (fun b hb => (h.n b (.inr (.inl hb))).1)
theorem Edit_put3 {n k : Nat} {a' : Rq} {v : Value} (h : EO w0 w z bt bq b4 qs t) (R : ∀ u, Fr F0 w0 u -> RS0 u z { t with reqs := t.reqs.set n a' } Z) (hn : n < t.reqs.length) (hk : k < 3) (he : encR a' = (encR t.reqs[n]).set k v) (hK : ∀ w' z Z, Fr F0 w0 w' -> TE w0.heap.size w' z { t with reqs := t.reqs.set n a' } Z -> K z w') :
  nz z.f3.p fun a => (0 <= (n : Int) /\ (n : Int) < (z.f3.l : Nat)) /\ wrOk w ((a.add ((n : Int).toNat * 3)).add k) /\ z1i_k0 ⟨bt, 0, none⟩ ⟨b4, 0, none⟩ K (w.setCell ((a.add ((n : Int).toNat * 3)).add k) v) := by
 obtain ⟨ad, hp, hw, ho, hf⟩ := h.o3.put encR_length hn hk he
 have hl := h.o3.len
 rw [hp]
 refine ⟨⟨by omega, by omega⟩, hw, Edit_k0_spec (z' := z) (Z' := Z) (h.m.frF hf (fun p hp' hb => ?_) fun b hb => (h.n b (.inr (.inr (.inl hb)))).1) (by simp) (by simp) (fun u' hf' f0 => ?_) hK⟩
 ·have := h.n p.1 (.inr (.inr (.inl hb)))
  simp only [List.mem_cons, List.not_mem_nil, or_false] at hp'
  rcases hp' with rfl | rfl | rfl <;> simp at this
 ·exact h.tp3 ((hf.mono fun b hb => .inl hb).trans hf' fun b hb _ => .inr (.inr hb)) (R u' f0) (ho.frF hf' fun b hb e => (h.n b (.inr (.inr (.inl hb)))).2.1 e) rfl rfl rfl rfl rfl rfl (fun b hb => (h.n b (.inr (.inr (.inl hb)))).1)
theorem Edit_set1 {w1 : World} {s : Sl} {l : List (Int × Int)} (h : EO w0 w z bt bq b4 qs t) (R : ∀ u, Fr F0 w0 u -> RS0 u { z with f1 := s } { t with lots := l } Z) (hf : Fr (inB z.f1) w w1) (ho : Ow 2 encL w1 s l) (hs : ∀ b, inB s b -> inB z.f1 b \/ w.heap.size <= b) (hK : ∀ w' z Z, Fr F0 w0 w' -> TE w0.heap.size w' z { t with lots := l } Z -> K z w') :
  wrOk w1 ⟨bt, 1, none⟩ /\ z1i_k0 ⟨bt, 0, none⟩ ⟨b4, 0, none⟩ K (w1.setCell ⟨bt, 1, none⟩ (.slice s.p s.l s.c)) := by
 have hm : Mem w0 w1 [(b4, zT), (bq, qs), (bt, z.cs)] := h.m.frF hf (fun p hp' hb => by
  have := h.n p.1 (.inl hb)
  simp only [List.mem_cons, List.not_mem_nil, or_false] at hp'
  rcases hp' with rfl | rfl | rfl <;> simp at this) fun b hb => (h.n b (.inl hb)).1
 have hb4 := (h.m.row 0 rfl).lt
 have hbt := (h.m.row 2 rfl).lt
 have hne : ∀ b, inB s b -> b ≠ b4 /\ b ≠ bt := fun b hb => by
  rcases hs b hb with hb | hb
  ·exact ⟨(h.n b (.inl hb)).2.1, (h.n b (.inl hb)).2.2.2⟩
  ·exact ⟨by omega, by omega⟩
 refine ⟨hm.wr 2 rfl rfl, Edit_k0_spec (Z' := Z) (z' := { z with f1 := s }) (hm.set (i := 1) (v := .slice s.p s.l s.c) 2 rfl) (by simp) (List.mem_of_getElem? (i := 2) rfl) (fun u' hf' f0 => ?_) hK⟩
 have fs : Fr (fun b => b = bt) w1 (w1.setCell ⟨bt, 1, none⟩ (.slice s.p s.l s.c)) := Fr.set rfl
 exact h.tp1 (((hf.mono fun b hb => .inl hb).trans fs fun b hb _ => .inr (.inl hb)).trans hf' fun b hb _ => .inr (.inr hb)) (R u' f0) ((ho.frF fs fun b hb e => (hne b hb).2 e).frF hf' fun b hb e => (hne b hb).1 e) rfl rfl rfl rfl rfl rfl (fun b hb => (hs b hb).elim (fun hb => (h.n b (.inl hb)).1) fun hb => Nat.le_trans h.m.1.1 hb)
theorem Edit_set2 {w1 : World} {s : Sl} {l : List (Cr)} (h : EO w0 w z bt bq b4 qs t) (R : ∀ u, Fr F0 w0 u -> RS0 u { z with f2 := s } { t with crit := l } Z) (hf : Fr (inB z.f2) w w1) (ho : Ow 5 encC w1 s l) (hs : ∀ b, inB s b -> inB z.f2 b \/ w.heap.size <= b) (hK : ∀ w' z Z, Fr F0 w0 w' -> TE w0.heap.size w' z { t with crit := l } Z -> K z w') :
  wrOk w1 ⟨bt, 2, none⟩ /\ z1i_k0 ⟨bt, 0, none⟩ ⟨b4, 0, none⟩ K (w1.setCell ⟨bt, 2, none⟩ (.slice s.p s.l s.c)) := by
 have hm : Mem w0 w1 [(b4, zT), (bq, qs), (bt, z.cs)] := h.m.frF hf (fun p hp' hb => by
  have := h.n p.1 (.inr (.inl hb))
  simp only [List.mem_cons, List.not_mem_nil, or_false] at hp'
  rcases hp' with rfl | rfl | rfl <;> simp at this) fun b hb => (h.n b (.inr (.inl hb))).1
 have hb4 := (h.m.row 0 rfl).lt
 have hbt := (h.m.row 2 rfl).lt
 have hne : ∀ b, inB s b -> b ≠ b4 /\ b ≠ bt := fun b hb => by
  rcases hs b hb with hb | hb
  ·exact ⟨(h.n b (.inr (.inl hb))).2.1, (h.n b (.inr (.inl hb))).2.2.2⟩
  ·exact ⟨by omega, by omega⟩
 refine ⟨hm.wr 2 rfl rfl, Edit_k0_spec (Z' := Z) (z' := { z with f2 := s }) (hm.set (i := 2) (v := .slice s.p s.l s.c) 2 rfl) (by simp) (List.mem_of_getElem? (i := 2) rfl) (fun u' hf' f0 => ?_) hK⟩
 have fs : Fr (fun b => b = bt) w1 (w1.setCell ⟨bt, 2, none⟩ (.slice s.p s.l s.c)) := Fr.set rfl
 exact h.tp2 (((hf.mono fun b hb => .inl hb).trans fs fun b hb _ => .inr (.inl hb)).trans hf' fun b hb _ => .inr (.inr hb)) (R u' f0) ((ho.frF fs fun b hb e => (hne b hb).2 e).frF hf' fun b hb e => (hne b hb).1 e) rfl rfl rfl rfl rfl rfl (fun b hb => (hs b hb).elim (fun hb => (h.n b (.inr (.inl hb))).1) fun hb => Nat.le_trans h.m.1.1 hb)
theorem Edit_set4 {w1 : World} {s : Sl} {l : List (B)} (h : EO w0 w z bt bq b4 qs t) (R : ∀ u, Fr F0 w0 u -> RS0 u { z with f11 := s } { t with ties := l } Z) (hf : Fr (inB z.f11) w w1) (ho : Ow 1 encB w1 s l) (ne : ∀ s ∈ l, s ≠ []) (hs : ∀ b, inB s b -> inB z.f11 b \/ w.heap.size <= b) (hK : ∀ w' z Z, Fr F0 w0 w' -> TE w0.heap.size w' z { t with ties := l } Z -> K z w') :
  wrOk w1 ⟨bt, 11, none⟩ /\ z1i_k0 ⟨bt, 0, none⟩ ⟨b4, 0, none⟩ K (w1.setCell ⟨bt, 11, none⟩ (.slice s.p s.l s.c)) := by
 have hm : Mem w0 w1 [(b4, zT), (bq, qs), (bt, z.cs)] := h.m.frF hf (fun p hp' hb => by
  have := h.n p.1 (.inr (.inr (.inr hb)))
  simp only [List.mem_cons, List.not_mem_nil, or_false] at hp'
  rcases hp' with rfl | rfl | rfl <;> simp at this) fun b hb => (h.n b (.inr (.inr (.inr hb)))).1
 have hb4 := (h.m.row 0 rfl).lt
 have hbt := (h.m.row 2 rfl).lt
 have hne : ∀ b, inB s b -> b ≠ b4 /\ b ≠ bt := fun b hb => by
  rcases hs b hb with hb | hb
  ·exact ⟨(h.n b (.inr (.inr (.inr hb)))).2.1, (h.n b (.inr (.inr (.inr hb)))).2.2.2⟩
  ·exact ⟨by omega, by omega⟩
 refine ⟨hm.wr 2 rfl rfl, Edit_k0_spec (Z' := Z) (z' := { z with f11 := s }) (hm.set (i := 11) (v := .slice s.p s.l s.c) 2 rfl) (by simp) (List.mem_of_getElem? (i := 2) rfl) (fun u' hf' f0 => ?_) hK⟩
 have fs : Fr (fun b => b = bt) w1 (w1.setCell ⟨bt, 11, none⟩ (.slice s.p s.l s.c)) := Fr.set rfl
 exact h.tp4 (((hf.mono fun b hb => .inl hb).trans fs fun b hb _ => .inr (.inl hb)).trans hf' fun b hb _ => .inr (.inr hb)) (R u' f0) ((ho.frF fs fun b hb e => (hne b hb).2 e).frF hf' fun b hb e => (hne b hb).1 e) rfl rfl rfl rfl rfl rfl ne (fun b hb => (hs b hb).elim (fun hb => (h.n b (.inr (.inr (.inr hb)))).1) fun hb => Nat.le_trans h.m.1.1 hb)
end
end Go.Proofs.YtfkmpbpkahcogaaGreatDoor
namespace Pw
open Go
theorem copy_spec {α : Type} {n : Nat} {enc : α -> List Value} {v : World} {x : Sl} {l : List α} {bytes e e' : Nat} {zero : List Value} {K : SW} (hx : Vw n enc v x l) (hok : ∀ a, ∀ v ∈ enc a, okC v = true) (hz : zero.length = n) (hb : l.length * bytes <= 2 ^ 47) (hm : l.length < 2 ^ 63)
  (hK : ∀ s u, Mk v n enc u s l -> K s u) : apS n bytes zero e ⟨some ⟨v.heap.size, 0, none⟩, 0, 0⟩ x (v.alloc (Obj.cells #[] e')) K := by
 have f : Fr F0 v (v.alloc (Obj.cells #[] e')) := Fr.alloc
 have r : Row (v.alloc (Obj.cells #[] e')) v.heap.size [] := Row.new (cs := [])
 have h0 : Mk v n enc (v.alloc (Obj.cells #[] e')) ⟨some ⟨v.heap.size, 0, none⟩, 0, 0⟩ ([] : List α) :=
  ⟨f, ⟨rfl, by simp, .inr ⟨_, _, rfl, r, by simp, Nat.le_refl _, rfl⟩⟩, fun b ⟨a, ha, hb⟩ => by cases ha; subst hb; exact Nat.le_refl _⟩
 exact h0.app (hx.fr f) hok hz (by simpa using hb) (by simpa using hm) fun s u h _ => hK s u (by simpa using h)
theorem copy0 {α : Type} {n : Nat} {enc : α -> List Value} {v : World} {b : Nat} {x : Sl} {l : List α} {bytes e : Nat} {zero : List Value} {K : SW} (hn : ∀ a, (enc a).length = n) (hr : Row v b []) (hx : Vw n enc v x l) (hok : ∀ a, ∀ v ∈ enc a, okC v = true) (hz : zero.length = n) (hb : l.length * bytes <= 2 ^ 47) (hm : l.length < 2 ^ 63)
  (hK : ∀ s u, Ow n enc u s l -> Fr F0 v u -> (∀ c, inB s c -> c = b \/ v.heap.size <= c) -> K s u) : apS n bytes zero e ⟨some ⟨b, 0, none⟩, 0, 0⟩ x v K := by
 have hl := hx.len
 have hlen : (l.flatMap enc).length = l.length * n := fm_length hn l
 refine ⟨l.flatMap enc, hx.rd, fun v hv => ?_, fun hc => ?_, fun hc => ⟨by simpa [hl] using hb, by simpa [hl] using hm, [], ⟨by simp, fun i hi => absurd hi (by simp)⟩, fun cap hcap => ?_⟩⟩
 ·obtain ⟨a, _, ha⟩ := List.mem_flatMap.1 hv
  exact hok a v ha
 ·have h0 : l = [] := List.eq_nil_of_length_eq_zero (by simp only at hc; omega)
  subst h0
  have h0 : x.l = 0 := by simpa using hl
  rw [h0]
  refine ⟨fun i hi => absurd hi (by simp), hK _ _ ⟨rfl, by simp, .inr ⟨b, [], rfl, hr, by simp, Nat.le_refl _, rfl⟩⟩ Fr.refl fun c ⟨a, ha, hc⟩ => ?_⟩
  cases ha
  exact .inl hc.symm
 ·simp only [Nat.zero_add] at hcap ⊢
  refine hK _ _ ⟨by simp [newSl, hl], by simp [newSl, hl, hlen], .inr ⟨v.heap.size, _, rfl, Row.new (w := v.drew), ?_, hcap, ?_⟩⟩ (Fr.drew.trans (Fr.alloc (F := F0)) fun _ h _ => h) fun c ⟨a, ha, hc⟩ => ?_
  ·simp [rowZ_length, hlen, hz, newSl, hl]
   rw [← Nat.add_mul]
   congr 1
   omega
  ·simp
  ·cases ha
   exact .inr (by rw [← hc]; exact Nat.le_refl _)
theorem stN5M {w0 w : World} {L : List (Nat × List Value)} {b o j : Nat} {cs : List Value} {v0 v1 v2 v3 v4 : Value} {K : World -> Prop} (h : Mem w0 w L) (hj : L[j]? = some (b, cs)) (ho : o + 5 <= cs.length)
  (hK : ∀ w', Mem w0 w' (L.set j (b, (((((cs.set o v0).set (o + 1) v1).set (o + 2) v2).set (o + 3) v3).set (o + 4) v4))) -> Fr (fun c => c = b) w w' -> K w') : stN w ⟨b, o, none⟩ [v0, v1, v2, v3, v4] K := by
 have hl : j < L.length := (List.getElem?_eq_some_iff.1 hj).1
 have sj : ∀ (M : List (Nat × List Value)) (p : Nat × List Value), M.length = L.length -> (M.set j p)[j]? = some p := fun M p h => List.getElem?_set_self (by omega)
 have e : ∀ k : Nat, (⟨b, o, none⟩ : Addr).add k = ⟨b, o + k, none⟩ := fun k => add_mk b o k
 have h1 := h.set (i := o) (v := v0) j hj
 have h2 := h1.set (i := o + 1) (v := v1) j (sj _ _ rfl)
 have h3 := h2.set (i := o + 2) (v := v2) j (sj _ _ (by simp))
 have h4 := h3.set (i := o + 3) (v := v3) j (sj _ _ (by simp))
 have h5 := h4.set (i := o + 4) (v := v4) j (sj _ _ (by simp))
 have w0' := h.wr j hj (i := o) (by simp [Nat.blt_eq]; omega)
 have w1' := h1.wr j (sj _ _ rfl) (i := o + 1) (by simp [Nat.blt_eq]; omega)
 have w2' := h2.wr j (sj _ _ (by simp)) (i := o + 2) (by simp [Nat.blt_eq]; omega)
 have w3' := h3.wr j (sj _ _ (by simp)) (i := o + 3) (by simp [Nat.blt_eq]; omega)
 have w4' := h4.wr j (sj _ _ (by simp)) (i := o + 4) (by simp [Nat.blt_eq]; omega)
 rw [List.set_set, List.set_set, List.set_set, List.set_set] at h5
 have fs : ∀ {u : World} {k : Nat} {v : Value}, Fr (fun c => c = b) u (u.setCell ⟨b, k, none⟩ v) := Fr.set rfl
 have ft : ∀ {u u' u2 : World}, Fr (fun c => c = b) u u' -> Fr (fun c => c = b) u' u2 -> Fr (fun c => c = b) u u2 := fun a c => a.trans c fun _ h _ => h
 have hk := hK _ h5 (ft (ft (ft (ft fs fs) fs) fs) fs)
 unfold stN stN.go stN.go stN.go stN.go stN.go stN.go
 rw [e, e, e, e, e]
 exact ⟨w0', w1', w2', w3', w4', hk⟩
end Pw
namespace Go.Proofs.YtfkmpbpkahcogaaGreatDoor
open Go Pw Dp
section
variable {w0 w u : World} {z z' : T43} {t t' : Td} {bt bq b4 : Nat} {qs : List Value} {K : T43 -> World -> Prop} {Z : List Sl}
theorem EO.lts (h : EO w0 w z bt bq b4 qs t) : b4 < w.heap.size /\ bt < w.heap.size /\ bt < b4 := by
 have := h.m.2.2.1
 simp at this
 exact ⟨(h.m.row 0 rfl).lt, (h.m.row 2 rfl).lt, this.1.2⟩
theorem Edit_fin7 {s : Sl} {ib n : Nat} {q : Int} (h : EO w0 w z bt bq b4 qs t) (R : RS0 w0 z t Z) (hm : Mk w 1 encZ u s (Z ++ [⟨some ⟨ib, 0, none⟩, 2, 2⟩])) (hi : w.heap.size <= ib) (hr : Row u ib [.int .i64 n, .int .i64 q])
  (hK : ∀ w' z Z, Fr F0 w0 w' -> TE w0.heap.size w' z { t with combos := t.combos ++ [[(n : Int), q]] } Z -> K z w') : wrOk u ⟨bt, 13, none⟩ /\ z1i_k0 ⟨bt, 0, none⟩ ⟨b4, 0, none⟩ K (u.setCell ⟨bt, 13, none⟩ (.slice s.p s.l s.c)) := by
 obtain ⟨l4, lt, l5⟩ := h.lts
 have m := h.m.fr hm.fr0
 refine ⟨m.wr 2 rfl rfl, Edit_k0_spec (Z' := Z ++ [⟨some ⟨ib, 0, none⟩, 2, 2⟩]) (z' := { z with f13 := s }) (m.set (i := 13) (v := .slice s.p s.l s.c) 2 rfl) (by simp) (List.mem_of_getElem? (i := 2) rfl) (fun u' hf' f0 => ?_) hK⟩
 have fs : Fr (fun b => b = bt \/ b = b4) u u' := (Fr.set (F := fun b => b = bt \/ b = b4) (.inl rfl)).trans hf' fun b hb _ => .inr hb
 have hr' := fs.row hr (by omega)
 have ho := hm.ow.frF fs fun b hb e => by have := hm.nw b hb; omega
 have Rf := R.fr f0
 have hz2 := Rf.io.push (s := ⟨some ⟨ib, 0, none⟩, 2, 2⟩) (l := [(n : Int), q]) (Row.ow encI_length (l := [(n : Int), q]) hr')
 exact h.tp ((hm.fr0.mono fun _ h => h.elim).trans fs fun b hb _ => hb) { Rf with combos := ho, io := hz2 } rfl rfl rfl rfl rfl rfl rfl rfl
theorem combo_push {v : World} {s : Sl} {ib eb n : Nat} {q : Int} {K : SW} (hs : Mk w 1 encZ v s Z) (hr : Row v ib [.int .i64 n, .int .i64 q]) (he : Row v eb [.slice (some ⟨ib, 0, none⟩) 2 2]) (hd : ∀ b, inB s b -> b ≠ ib) (hl : Z.length <= 2 ^ 20)
  (hK : ∀ r u, Mk w 1 encZ u r (Z ++ [⟨some ⟨ib, 0, none⟩, 2, 2⟩]) -> Row u ib [.int .i64 n, .int .i64 q] -> K r u) : apS 1 24 [(Value.slice none 0 0)] 25 s ⟨some ⟨eb, 0, none⟩, 1, 1⟩ v K :=
 hs.app (m := [⟨some ⟨ib, 0, none⟩, 2, 2⟩]) (Row.ow encZ_length (l := [(⟨some ⟨ib, 0, none⟩, 2, 2⟩ : Sl)]) he).vw encZ_ok rfl (by simp; omega) (by simp; omega) fun r u h hf => hK r u h (hf.row hr fun hb => hd _ hb rfl)
end
end Go.Proofs.YtfkmpbpkahcogaaGreatDoor
namespace Go.Proofs.YtfkmpbpkahcogaaGreatDoor
open Go Pw Dp
section
variable {w0 w u : World} {z z' y : T43} {t t' : Td} {bt bq b4 : Nat} {qs : List Value} {K : T43 -> World -> Prop} {Z : List Sl}
theorem FitK.small {k : Nat} (h : FitK k t) : t.lots.length <= 2 ^ 20 /\ t.crit.length <= 2 ^ 20 /\ t.reqs.length <= 2 ^ 20 /\ t.ties.length <= 2 ^ 20 /\ t.combos.length <= 2 ^ 20 := by
 have h1 := h.lots; have h2 := h.crit; have h3 := h.reqs; have h4 := h.ties; have h5 := h.combos
 omega
theorem Edit_c4 {q q0 q1 : Int} (h : EO w0 w z bt bq b4 [.int .i64 q0, .int .i64 q1, .int .i64 q] t) (R : RS0 w0 z t Z) (hK : ∀ w' z Z, Fr F0 w0 w' -> TE w0.heap.size w' z { t with fm := .op 0 t.fm (.name (namP q)) } Z -> K z w') :
  z1j_sh q (fun r w71 => Rs w71 [(b4, zT), (bq, [.int .i64 q0, .int .i64 q1, .int .i64 q]), (bt, z.cs)] /\ let w73 : World := w71.alloc (Obj.cells #[(Value.string z.f6), (Value.int .i64 z.f7), (Value.int .i64 z.f8), (Value.string z.f9), (Value.slice z.f10.p z.f10.l z.f10.c), (Value.string (str [110, 97, 109, 101])), (Value.int .i64 (0 : Int)), (Value.int .i64 (0 : Int)), (Value.string r), (Value.slice none 0 0)] 38)
   Rs w73 [(b4, zT), (bq, [.int .i64 q0, .int .i64 q1, .int .i64 q]), (bt, z.cs)] /\ stN w73 ⟨bt, 6, none⟩ [(Value.string (str [43])), (Value.int .i64 (0 : Int)), (Value.int .i64 (0 : Int)), (Value.string (str [])), (Value.slice (some (Addr.mk w71.heap.size 0 none)) 2 2)] fun (w74 : World) => z1i_k0 ⟨bt, 0, none⟩ ⟨b4, 0, none⟩ K w74) w := by
 refine Name_spec fun w71 hf => ?_
 have h := h.fr hf
 obtain ⟨l4, lt, l5⟩ := h.lts
 refine ⟨h.m.2.1, ?_⟩
 intro w73
 have hr : Row w73 w71.heap.size ([(⟨z.f6, z.f7, z.f8, z.f9, z.f10⟩ : XC), ⟨ofL wName, 0, 0, ofL (namP q), ⟨none, 0, 0⟩⟩].flatMap encX) := Row.new
 have f : Fr F0 w71 w73 := Fr.alloc
 clear_value w73
 have h' := h.fr f
 refine ⟨h'.m.2.1, stN5M h'.m (j := 2) rfl (by show 6 + 5 <= 20; decide) fun w74 m fs => ?_⟩
 refine Edit_k0_spec (Z' := Z) (z' := { z with f6 := ofL (opB 0), f7 := 0, f8 := 0, f9 := ofL [], f10 := ⟨some ⟨w71.heap.size, 0, none⟩, 2, 2⟩ }) m (by simp) (List.mem_of_getElem? (i := 2) rfl) (fun u' hf' f0 => ?_) hK
 have fu : Fr (fun b => b = bt \/ b = b4) w73 u' := (fs.mono fun b hb => .inl hb).trans hf' fun b hb _ => .inr hb
 have Rf := R.fr f0
 have hr := fu.row hr (by omega)
 obtain ⟨P, hx⟩ := Rf.fm
 exact h'.tp fu { Rf with fm := ⟨fun b => P b \/ b = w71.heap.size, _, _, w71.heap.size, ⟨rfl, rfl, rfl, rfl⟩, rfl, hr, .inr rfl, hx.mono (fun b hb => .inl hb), rfl, Nat.le_trans (namP_len _) (by decide)⟩ } rfl rfl rfl rfl rfl rfl rfl rfl
theorem Edit_spec {k lo : Nat} {q0 q1 q2 : Int} (hy' : TE lo w y t Z) (hF : FitK k t) (hK : ∀ w' z Z, Fr F0 w w' -> TE w.heap.size w' z (editP t q0 q1 q2) Z -> K z w') : z1i_sh y q0 q1 q2 K w := by
 have hy := hy'.tp
 obtain ⟨s1, s2, s3, s4, s5⟩ := hF.small
 refine ⟨?_⟩
 unfold z1i_sd
 intro w1
 have m : Mem w w1 [(w.heap.size, y.cs)] := Mem.nil.allocL
 clear_value w1
 intro w2
 have m : Mem w w2 [(w1.heap.size, [.int .i64 q0, .int .i64 q1, .int .i64 q2]), (w.heap.size, y.cs)] := m.allocL
 clear_value w2
 intro w3
 have m : Mem w w3 [(w2.heap.size, zT), (w1.heap.size, [.int .i64 q0, .int .i64 q1, .int .i64 q2]), (w.heap.size, y.cs)] := m.allocL
 clear_value w3
 have kk := m.2.2.1
 simp only [List.map_cons, List.map_nil, List.pairwise_cons, List.mem_cons, List.not_mem_nil, or_false, forall_eq_or_imp, forall_eq, gt_iff_lt] at kk
 have k4 := (m.row 0 rfl).lt
 generalize ebt : w.heap.size = bt at m kk k4
 generalize w1.heap.size = bq at m kk
 generalize w2.heap.size = b4 at m kk k4
 refine ⟨⟨by decide, by decide⟩, _, by rw [add_mk]; exact m.ld (i := 1) 1 rfl rfl, Mod_spec (by decide) (by decide) ?_⟩
 intro w7
 refine ⟨y.f1, (m.fr Fr.alloc).ld 2 rfl rfl, copy_spec (hy.lots.fr m.1) encL_ok rfl (by omega) (by omega) fun s9 w10 h1 => ?_⟩
 have m := m.fr h1.fr0
 refine ⟨m.wr 2 rfl rfl, ?_⟩
 intro w11
 have m : Mem w w11 [(b4, zT), (bq, [.int .i64 q0, .int .i64 q1, .int .i64 q2]), (bt, T43.cs { y with f1 := s9 })] := m.set 2 rfl
 have f : Fr (fun b => b = bt) w10 w11 := Fr.set rfl
 have a1 : ∀ b, inB s9 b -> w3.heap.size <= b /\ b < w10.heap.size := fun b hb => ⟨h1.nw b hb, h1.ow.lt' hb⟩
 have g1 := h1.fr0.1
 have g2 := f.1
 have h1 := h1.ow.frF f fun b hb e => by have := a1 b hb; omega
 clear_value w11
 intro w12
 refine ⟨y.f2, (m.fr Fr.alloc).ld 2 rfl rfl, copy_spec (hy.crit.fr m.1) encC_ok rfl (by omega) (by omega) fun s14 w15 h2 => ?_⟩
 have m := m.fr h2.fr0
 have h1 := h1.fr h2.fr0
 refine ⟨m.wr 2 rfl rfl, ?_⟩
 intro w16
 have m : Mem w w16 [(b4, zT), (bq, [.int .i64 q0, .int .i64 q1, .int .i64 q2]), (bt, T43.cs { y with f1 := s9, f2 := s14 })] := m.set 2 rfl
 have f : Fr (fun b => b = bt) w15 w16 := Fr.set rfl
 have a2 : ∀ b, inB s14 b -> w11.heap.size <= b /\ b < w15.heap.size := fun b hb => ⟨h2.nw b hb, h2.ow.lt' hb⟩
 have g3 := h2.fr0.1
 have g4 := f.1
 have h1 := h1.frF f fun b hb e => by have := a1 b hb; omega
 have h2 := h2.ow.frF f fun b hb e => by have := a2 b hb; omega
 clear_value w16
 intro w17
 refine ⟨y.f3, (m.fr Fr.alloc).ld 2 rfl rfl, copy_spec (hy.reqs.fr m.1) encR_ok rfl (by omega) (by omega) fun s19 w20 h3 => ?_⟩
 have m := m.fr h3.fr0
 have h1 := h1.fr h3.fr0
 have h2 := h2.fr h3.fr0
 refine ⟨m.wr 2 rfl rfl, ?_⟩
 intro w21
 have m : Mem w w21 [(b4, zT), (bq, [.int .i64 q0, .int .i64 q1, .int .i64 q2]), (bt, T43.cs { y with f1 := s9, f2 := s14, f3 := s19 })] := m.set 2 rfl
 have f : Fr (fun b => b = bt) w20 w21 := Fr.set rfl
 have a3 : ∀ b, inB s19 b -> w16.heap.size <= b /\ b < w20.heap.size := fun b hb => ⟨h3.nw b hb, h3.ow.lt' hb⟩
 have g5 := h3.fr0.1
 have g6 := f.1
 have h1 := h1.frF f fun b hb e => by have := a1 b hb; omega
 have h2 := h2.frF f fun b hb e => by have := a2 b hb; omega
 have h3 := h3.ow.frF f fun b hb e => by have := a3 b hb; omega
 clear_value w21
 intro w22
 refine ⟨y.f11, (m.fr Fr.alloc).ld 2 rfl rfl, copy_spec (hy.ties.fr m.1) encB_ok rfl (by omega) (by omega) fun s24 w25 h4 => ?_⟩
 have m := m.fr h4.fr0
 have h1 := h1.fr h4.fr0
 have h2 := h2.fr h4.fr0
 have h3 := h3.fr h4.fr0
 refine ⟨m.wr 2 rfl rfl, ?_⟩
 intro w26
 have m : Mem w w26 [(b4, zT), (bq, [.int .i64 q0, .int .i64 q1, .int .i64 q2]), (bt, T43.cs { y with f1 := s9, f2 := s14, f3 := s19, f11 := s24 })] := m.set 2 rfl
 have f : Fr (fun b => b = bt) w25 w26 := Fr.set rfl
 have a4 : ∀ b, inB s24 b -> w21.heap.size <= b /\ b < w25.heap.size := fun b hb => ⟨h4.nw b hb, h4.ow.lt' hb⟩
 have h1 := h1.frF f fun b hb e => by have := a1 b hb; omega
 have h2 := h2.frF f fun b hb e => by have := a2 b hb; omega
 have h3 := h3.frF f fun b hb e => by have := a3 b hb; omega
 have h4 := h4.ow.frF f fun b hb e => by have := a4 b hb; omega
 clear_value w26
 have E : EO w w26 { y with f1 := s9, f2 := s14, f3 := s19, f11 := s24 } bt bq b4 [.int .i64 q0, .int .i64 q1, .int .i64 q2] t :=
  ⟨m, h1, h2, h3, h4, fun b hb => by rcases hb with hb | hb | hb | hb; (have := a1 b hb; omega); (have := a2 b hb; omega); (have := a3 b hb; omega); (have := a4 b hb; omega),
   fun b hb => ⟨fun hc => by have := a1 b hb; have := a2 b hc; omega, fun hc => by have := a1 b hb; have := a3 b hc; omega, fun hc => by have := a1 b hb; have := a4 b hc; omega⟩,
   fun b hb => ⟨fun hc => by have := a2 b hb; have := a3 b hc; omega, fun hc => by have := a2 b hb; have := a4 b hc; omega⟩,
   fun b hb hc => by have := a3 b hb; have := a4 b hc; omega, hy'.tw.ne⟩
 have R : RS0 w { y with f1 := s9, f2 := s14, f3 := s19, f11 := s24 } t Z := ⟨hy.name, hy.low, hy.high, hy'.tw.fm, hy.most, hy'.oz, hy'.tw.io, hy.budget, hy.t1, hy.t2, hy.t3, hy.t4, hy.t5⟩
 refine ⟨⟨by decide, by decide⟩, _, by rw [add_mk]; exact m.ld (i := 0) 1 rfl rfl, Mod_spec (by decide) (by decide) ?_⟩
 have hc := modP_in q0 (m := 12) (by decide)
 have hn := modP_in q1 (m := 7) (by decide)
 have hKc : ∀ {c : Int}, modP q0 12 = c -> ∀ w' z Z, Fr F0 w w' -> TE w.heap.size w' z (editC t (modP q1 7).toNat q2 c) Z -> K z w' := by rintro _ rfl; exact hK
 clear hK m h1 h2 h3 h4 a1 a2 a3 a4
 generalize modP q0 12 = c at hc hKc
 obtain ⟨n, en⟩ := Int.eq_ofNat_of_zero_le hn.1
 rw [en] at hn hKc ⊢
 rw [Int.toNat_natCast] at hKc
 have hq2 : ∀ {v : World}, Rs v [(b4, zT), (bq, [.int .i64 q0, .int .i64 q1, .int .i64 q2]), (bt, T43.cs { y with f1 := s9, f2 := s14, f3 := s19, f11 := s24 })] -> v.cell? ((⟨bq, 0, none⟩ : Addr).add ((2 : Int).toNat * 1)) = some (.int .i64 q2) := fun h => by rw [add_mk]; exact h.ld (i := 2) 1 rfl rfl
 have l1 : s9.l = t.lots.length := E.o1.len
 have l2 : s14.l = t.crit.length := E.o2.len
 have l3 : s19.l = t.reqs.length := E.o3.len
 refine cnd_beq.2 ⟨fun e => ?_, fun n0 => cnd_beq.2 ⟨fun e => ?_, fun n1 => cnd_beq.2 ⟨fun e => ?_, fun n2 => cnd_beq.2 ⟨fun e => ?_, fun n3 => cnd_beq.2 ⟨fun e => ?_, fun n4 => cnd_beq.2 ⟨fun e => ?_, fun n5 => cnd_beq.2 ⟨fun e => ?_, fun n6 => cnd_beq.2 ⟨fun e => ?_, fun n7 => cnd_beq.2 ⟨fun e => ?_, fun n8 => cnd_beq.2 ⟨fun e => ?_, fun n9 => cnd_beq.2 ⟨fun e => ?_, fun n10 => cnd_beq.2 ⟨fun e => ?_, fun n11 => by omega⟩⟩⟩⟩⟩⟩⟩⟩⟩⟩⟩⟩
 ·have hK : ∀ w' z Z, Fr F0 w w' -> TE w.heap.size w' z { t with lots := if h : n < t.lots.length then t.lots.set n (t.lots[n].1, wr64 (t.lots[n].2 + q2)) else t.lots } Z -> K z w' := hKc e
  refine ⟨s9, E.m.ld (i := 1) 2 rfl rfl, cnd_prop.2 ⟨fun hl => ?_, fun hl => ?_⟩⟩
  ·have hl : n < t.lots.length := by omega
   simp only [hl, dif_pos] at hK
   intro w31
   have E := E.fr (Fr.drew (F := F0))
   have E : EO w w31 _ bt bq b4 _ t := E
   clear_value w31
   refine ⟨fun v => v = w31, rfl, s9, fun v hv => by rw [hv]; exact E.m.ld (i := 1) 2 rfl rfl, s9, fun v hv => by rw [hv]; exact E.m.ld (i := 1) 2 rfl rfl, ?_⟩
   refine Vw.go encL_length (by decide) E.o1.vw n rfl hl fun a hc => ⟨_, fun v hv => by rw [hv]; exact hc 1 _ rfl, ⟨by decide, by decide⟩, _, fun v hv => by rw [hv]; exact hq2 E.m.2.1, ?_⟩
   exact Edit_put1 E (fun u h => let R := R.fr h; ⟨R.name, R.low, R.high, R.fm, R.most, R.combos, R.io, R.budget, R.t1, R.t2, R.t3, R.t4, R.t5⟩) hl (by decide) rfl hK
  ·have hl : ¬ n < t.lots.length := by omega
   simp only [hl, dif_neg, not_false_iff] at hK
   exact Edit_no E (fun u h => R.fr h) hK
 ·have hK : ∀ w' z Z, Fr F0 w w' -> TE w.heap.size w' z { t with crit := if h : n < t.crit.length then t.crit.set n { t.crit[n] with high := wr64 (t.crit[n].high + q2) } else t.crit } Z -> K z w' := hKc e
  refine ⟨s14, E.m.ld (i := 2) 2 rfl rfl, cnd_prop.2 ⟨fun hl => ?_, fun hl => ?_⟩⟩
  ·have hl : n < t.crit.length := by omega
   simp only [hl, dif_pos] at hK
   intro w31
   have E := E.fr (Fr.drew (F := F0))
   have E : EO w w31 _ bt bq b4 _ t := E
   clear_value w31
   refine ⟨fun v => v = w31, rfl, s14, fun v hv => by rw [hv]; exact E.m.ld (i := 2) 2 rfl rfl, s14, fun v hv => by rw [hv]; exact E.m.ld (i := 2) 2 rfl rfl, ?_⟩
   refine Vw.go encC_length (by decide) E.o2.vw n rfl hl fun a hc => ⟨_, fun v hv => by rw [hv]; exact hc 3 _ rfl, ⟨by decide, by decide⟩, _, fun v hv => by rw [hv]; exact hq2 E.m.2.1, ?_⟩
   exact Edit_put2 E (fun u h => let R := R.fr h; ⟨R.name, R.low, R.high, R.fm, R.most, R.combos, R.io, R.budget, R.t1, R.t2, R.t3, R.t4, R.t5⟩) hl (by decide) rfl hK
  ·have hl : ¬ n < t.crit.length := by omega
   simp only [hl, dif_neg, not_false_iff] at hK
   exact Edit_no E (fun u h => R.fr h) hK
 ·have hK : ∀ w' z Z, Fr F0 w w' -> TE w.heap.size w' z { t with reqs := if h : n < t.reqs.length then t.reqs.set n { t.reqs[n] with val := wr64 (t.reqs[n].val + q2) } else t.reqs } Z -> K z w' := hKc e
  refine ⟨s19, E.m.ld (i := 3) 2 rfl rfl, cnd_prop.2 ⟨fun hl => ?_, fun hl => ?_⟩⟩
  ·have hl : n < t.reqs.length := by omega
   simp only [hl, dif_pos] at hK
   intro w31
   have E := E.fr (Fr.drew (F := F0))
   have E : EO w w31 _ bt bq b4 _ t := E
   clear_value w31
   refine ⟨fun v => v = w31, rfl, s19, fun v hv => by rw [hv]; exact E.m.ld (i := 3) 2 rfl rfl, s19, fun v hv => by rw [hv]; exact E.m.ld (i := 3) 2 rfl rfl, ?_⟩
   refine Vw.go encR_length (by decide) E.o3.vw n rfl hl fun a hc => ⟨_, fun v hv => by rw [hv]; exact hc 2 _ rfl, ⟨by decide, by decide⟩, _, fun v hv => by rw [hv]; exact hq2 E.m.2.1, ?_⟩
   exact Edit_put3 E (fun u h => let R := R.fr h; ⟨R.name, R.low, R.high, R.fm, R.most, R.combos, R.io, R.budget, R.t1, R.t2, R.t3, R.t4, R.t5⟩) hl (by decide) rfl hK
  ·have hl : ¬ n < t.reqs.length := by omega
   simp only [hl, dif_neg, not_false_iff] at hK
   exact Edit_no E (fun u h => R.fr h) hK
 ·have hK : ∀ w' z Z, Fr F0 w w' -> TE w.heap.size w' z { t with high := wr64 (t.high + q2) } Z -> K z w' := hKc e
  refine ⟨_, E.m.ld (i := 5) 2 rfl rfl, ⟨by decide, by decide⟩, _, hq2 E.m.2.1, ?_⟩
  exact Edit_num (t' := { t with high := wr64 (t.high + q2) }) (z' := { y with f1 := s9, f2 := s14, f3 := s19, f11 := s24, f5 := wr64 (y.f5 + q2) }) E (by decide) (fun u h => let R := R.fr h; ⟨R.name, R.low, by show wr64 _ = _; rw [hy.high], R.fm, R.most, R.combos, R.io, R.budget, R.t1, R.t2, R.t3, R.t4, R.t5⟩) rfl rfl rfl rfl rfl rfl rfl rfl rfl hK
 ·have hK : ∀ w' z Z, Fr F0 w w' -> TE w.heap.size w' z { t with fm := .op 0 t.fm (.name (namP q2)) } Z -> K z w' := hKc e
  intro w63
  have E := E.fr (Fr.drew (F := F0))
  have E : EO w w63 _ bt bq b4 _ t := E
  clear_value w63
  refine ⟨fun v => Rs v [(b4, zT), (bq, [.int .i64 q0, .int .i64 q1, .int .i64 q2]), (bt, T43.cs { y with f1 := s9, f2 := s14, f3 := s19, f11 := s24 })], E.m.2.1, ?_⟩
  refine ⟨_, fun v hv => hv.ld (i := 6) 2 rfl rfl, _, fun v hv => hv.ld (i := 7) 2 rfl rfl, _, fun v hv => hv.ld (i := 8) 2 rfl rfl, _, fun v hv => hv.ld (i := 9) 2 rfl rfl, y.f10, fun v hv => hv.ld (i := 10) 2 rfl rfl, ⟨by decide, by decide⟩, _, fun v hv => hq2 hv, Edit_c4 E R hK⟩
 ·have hK : ∀ w' z Z, Fr F0 w w' -> TE w.heap.size w' z { t with ties := t.ties ++ [namP q2] } Z -> K z w' := hKc e
  intro w75
  have E := E.fr (Fr.drew (F := F0))
  have E : EO w w75 _ bt bq b4 _ t := E
  clear_value w75
  refine ⟨fun v => Rs v [(b4, zT), (bq, [.int .i64 q0, .int .i64 q1, .int .i64 q2]), (bt, T43.cs { y with f1 := s9, f2 := s14, f3 := s19, f11 := s24 })], E.m.2.1, s24, fun v hv => hv.ld (i := 11) 2 rfl rfl, ⟨by decide, by decide⟩, _, fun v hv => hq2 hv, ?_⟩
  refine Name_spec fun w79 hf => ⟨(E.fr hf).m.2.1, ?_⟩
  have E := E.fr hf
  intro w81
  have E' := E.fr (Fr.alloc (o := Obj.cells (encB (namP q2)).toArray 9))
  refine ⟨E'.m.2.1, E'.o4.app (m := [namP q2]) (Vw.new rfl rfl) encB_ok rfl (by simp; omega) (by simp; omega) fun s82 w83 ho hfr hs => ⟨?_, ?_⟩⟩
  ·exact (E'.m.frF hfr (fun p hp' hb => by
    have := E'.n p.1 (.inr (.inr (.inr hb)))
    simp only [List.mem_cons, List.not_mem_nil, or_false] at hp'
    rcases hp' with rfl | rfl | rfl <;> simp at this) fun b hb => (E'.n b (.inr (.inr (.inr hb)))).1).2.1
  ·exact Edit_set4 (l := t.ties ++ [namP q2]) E' (fun u h => let R := R.fr h; ⟨R.name, R.low, R.high, R.fm, R.most, R.combos, R.io, R.budget, R.t1, R.t2, R.t3, R.t4, R.t5⟩) hfr ho (fun s hs => (List.mem_append.1 hs).elim (hy'.tw.ne s) fun h => by rw [List.mem_singleton.1 h]; exact namP_ne q2) hs hK
 ·have hK : ∀ w' z Z, Fr F0 w w' -> TE w.heap.size w' z { t with most := wr64 (t.most + q2) } Z -> K z w' := hKc e
  refine ⟨_, E.m.ld (i := 12) 2 rfl rfl, ⟨by decide, by decide⟩, _, hq2 E.m.2.1, ?_⟩
  exact Edit_num (t' := { t with most := wr64 (t.most + q2) }) (z' := { y with f1 := s9, f2 := s14, f3 := s19, f11 := s24, f12 := wr64 (y.f12 + q2) }) E (by decide) (fun u h => let R := R.fr h; ⟨R.name, R.low, R.high, R.fm, by show wr64 _ = _; rw [hy.most], R.combos, R.io, R.budget, R.t1, R.t2, R.t3, R.t4, R.t5⟩) rfl rfl rfl rfl rfl rfl rfl rfl rfl hK
 ·have hK : ∀ w' z Z, Fr F0 w w' -> TE w.heap.size w' z { t with combos := t.combos ++ [[(n : Int), q2]] } Z -> K z w' := hKc e
  have hZ := hy'.oz.vw
  have hZl := hy'.tw.io.1
  have hZ2 : Z.length <= 2 ^ 20 := by omega
  intro w88
  have E := E.fr (Fr.drew (F := F0))
  have E : EO w w88 _ bt bq b4 _ t := E
  clear_value w88
  have hS : ∀ {v : World}, Fr F0 w88 v -> v.cell? (⟨bt, 13, none⟩ : Addr) = some (.slice y.f13.p y.f13.l y.f13.c) := fun f => (E.fr f).m.ld (i := 13) 2 rfl rfl
  have zv : ∀ {v : World}, Fr F0 w88 v -> Vw 1 encZ v y.f13 Z := fun f => hZ.fr (E.m.1.t f)
  have fin := fun {s : Sl} {ib : Nat} {u : World} (hm : Mk w88 1 encZ u s (Z ++ [⟨some ⟨ib, 0, none⟩, 2, 2⟩])) (hi : w88.heap.size <= ib) (hr : Row u ib [.int .i64 n, .int .i64 q2]) => Edit_fin7 E R hm hi hr hK
  refine ⟨fun v => Fr F0 w88 v, Fr.refl, y.f13, fun v hv => hS hv, ⟨by decide, by decide⟩, _, fun v hv => hq2 (E.fr hv).m.2.1, ?_, ?_⟩
  ·intro w92
   refine ⟨Fr.alloc, copy_spec (zv Fr.refl) encZ_ok rfl (by omega) (by omega) fun s93 w94 h1 => ⟨h1.fr0, ?_⟩, ?_⟩
   ·intro w95
    have r1 : Row w95 w94.heap.size [.int .i64 n, .int .i64 q2] := Row.new
    have f1 : Fr F0 w94 w95 := Fr.alloc
    have k1 := h1.fr0.1
    clear_value w95
    refine ⟨h1.fr0.t f1, ?_⟩
    intro w96
    have r2 : Row w96 w95.heap.size [.slice (some ⟨w94.heap.size, 0, none⟩) 2 2] := Row.new
    have f2 : Fr F0 w95 w96 := Fr.alloc
    clear_value w96
    refine ⟨h1.fr0.t (f1.t f2), combo_push (h1.fr (f1.t f2)) (f2.row r1 fun h => h) r2 (fun b hb e => by have := h1.ow.lt' hb; omega) hZ2 fun s97 w98 h2 hr => ⟨h2.fr0, fin h2 k1 hr⟩⟩
   ·intro w100
    have r0 : Row w92 w88.heap.size [] := Row.new (cs := [])
    have f0 : Fr F0 w88 w92 := Fr.alloc
    have r1 : Row w100 w92.heap.size [.int .i64 n, .int .i64 q2] := Row.new
    have f1 : Fr F0 w92 w100 := Fr.alloc
    have k0 := r0.lt
    have k1 := f1.1
    clear_value w100 w92
    refine ⟨f0.t f1, fun u u' h hs => hs.t h.f0, ⟨fun u => ExtL.alloc, trivial⟩, fun w101 e101 => ?_⟩
    have f2 := f0.t (f1.t e101.f0)
    have g2 := f2.1
    refine copy0 encZ_length ((f1.t e101.f0).row r0 fun h => h) (zv f2) encZ_ok rfl (by omega) (by omega) fun s102 w103 h1 f3 hs => ⟨f3.ext, fun w104 e104 w105 e105 _ g105 => ?_⟩
    have f4 := f3.t e104.f0
    have g3 := (f1.t e101.f0).1
    have hm : Mk w88 1 encZ w104 s102 Z := ⟨f2.t f4, h1.fr e104.f0, fun b hb => by rcases hs b hb with h | h <;> omega⟩
    have g4 := e101.f0.1
    have k4 := r1.lt
    refine combo_push hm ((e101.f0.t f4).row r1 fun h => h) (g105.f0.row (Row.new (cs := [.slice (some ⟨w92.heap.size, 0, none⟩) 2 2])) fun h => h) (fun b hb e => by rcases hs b hb with h | h <;> omega) hZ2 fun s97 w98 h2 hr => ⟨h2.fr0, fin h2 f0.1 hr⟩
  ·intro w109
   have r1 : Row w109 w88.heap.size [.int .i64 n, .int .i64 q2] := Row.new
   have f1 : Fr F0 w88 w109 := Fr.alloc
   have k0 := r1.lt
   clear_value w109
   refine ⟨f1, ?_, ?_⟩
   ·intro w110
    have r0 : Row w110 w109.heap.size [] := Row.new (cs := [])
    have f0 : Fr F0 w109 w110 := Fr.alloc
    have k1 := f0.1
    clear_value w110
    refine ⟨f1.t f0, fun u u' h hs => hs.t h.f0, ⟨fun u => ExtL.alloc, trivial⟩, fun w111 e111 => ?_⟩
    have f2 := f1.t (f0.t e111.f0)
    have g2 := f2.1
    refine copy0 encZ_length (e111.f0.row r0 fun h => h) (zv f2) encZ_ok rfl (by omega) (by omega) fun s112 w113 h1 f3 hs => ⟨f3.ext, fun w114 e114 w115 e115 _ g115 => ?_⟩
    have f4 := f3.t e114.f0
    have g4 := (f0.t e111.f0).1
    have hm : Mk w88 1 encZ w114 s112 Z := ⟨f2.t f4, h1.fr e114.f0, fun b hb => by rcases hs b hb with h | h <;> omega⟩
    refine combo_push hm ((f0.t (e111.f0.t f4)).row r1 fun h => h) (g115.f0.row (Row.new (cs := [.slice (some ⟨w88.heap.size, 0, none⟩) 2 2])) fun h => h) (fun b hb e => by rcases hs b hb with h | h <;> omega) hZ2 fun s97 w98 h2 hr => ⟨h2.fr0, fin h2 (Nat.le_refl _) hr⟩
   ·intro w119
    have r2 : Row w119 w109.heap.size [.slice (some ⟨w88.heap.size, 0, none⟩) 2 2] := Row.new
    have f2 : Fr F0 w109 w119 := Fr.alloc
    have k2 := f2.1
    clear_value w119
    refine ⟨f1.t f2, ?_⟩
    intro w120
    have f3 : Fr F0 w119 w120 := Fr.alloc
    refine ⟨f1.t (f2.t f3), copy_spec (zv (f1.t f2)) encZ_ok rfl (by omega) (by omega) fun s121 w122 h1 => ?_⟩
    have f5 := f2.t h1.fr0
    have hm : Mk w88 1 encZ w122 s121 Z := ⟨f1.t f5, h1.ow, fun b hb => by have := h1.nw b hb; omega⟩
    refine ⟨f1.t f5, combo_push hm (f5.row r1 fun h => h) (h1.fr0.row r2 fun h => h) (fun b hb e => by have := h1.nw b hb; omega) hZ2 fun s97 w98 h2 hr => ⟨h2.fr0, fin h2 (Nat.le_refl _) hr⟩⟩
 ·have hK : ∀ w' z Z, Fr F0 w w' -> TE w.heap.size w' z { t with budget := wr64 (t.budget + q2) } Z -> K z w' := hKc e
  refine ⟨_, E.m.ld (i := 14) 2 rfl rfl, ⟨by decide, by decide⟩, _, hq2 E.m.2.1, ?_⟩
  exact Edit_num (t' := { t with budget := wr64 (t.budget + q2) }) (z' := { y with f1 := s9, f2 := s14, f3 := s19, f11 := s24, f14 := wr64 (y.f14 + q2) }) E (by decide) (fun u h => let R := R.fr h; ⟨R.name, R.low, R.high, R.fm, R.most, R.combos, R.io, by show wr64 _ = _; rw [hy.budget], R.t1, R.t2, R.t3, R.t4, R.t5⟩) rfl rfl rfl rfl rfl rfl rfl rfl rfl hK
 ·have hK : ∀ w' z Z, Fr F0 w w' -> TE w.heap.size w' z { t with t2 := wr64 (t.t2 + q2) } Z -> K z w' := hKc e
  refine ⟨_, E.m.ld (i := 16) 2 rfl rfl, ⟨by decide, by decide⟩, _, hq2 E.m.2.1, ?_⟩
  exact Edit_num (t' := { t with t2 := wr64 (t.t2 + q2) }) (z' := { y with f1 := s9, f2 := s14, f3 := s19, f11 := s24, f16 := wr64 (y.f16 + q2) }) E (by decide) (fun u h => let R := R.fr h; ⟨R.name, R.low, R.high, R.fm, R.most, R.combos, R.io, R.budget, R.t1, by show wr64 _ = _; rw [hy.t2], R.t3, R.t4, R.t5⟩) rfl rfl rfl rfl rfl rfl rfl rfl rfl hK
 ·have hK : ∀ w' z Z, Fr F0 w w' -> TE w.heap.size w' z { t with lots := t.lots ++ [((n : Int), q2)] } Z -> K z w' := hKc e
  refine ⟨s9, E.m.ld (i := 1) 2 rfl rfl, ⟨by decide, by decide⟩, _, hq2 E.m.2.1, ?_⟩
  have E' := E.fr (Fr.alloc (o := Obj.cells (encL ((n : Int), q2)).toArray 66))
  exact E'.o1.app (m := [((n : Int), q2)]) (Vw.new rfl rfl) encL_ok rfl (by simp; omega) (by simp; omega) fun s82 w83 ho hfr hs =>
   Edit_set1 (l := t.lots ++ [((n : Int), q2)]) E' (fun u h => let R := R.fr h; ⟨R.name, R.low, R.high, R.fm, R.most, R.combos, R.io, R.budget, R.t1, R.t2, R.t3, R.t4, R.t5⟩) hfr ho hs hK
 ·have hK : ∀ w' z Z, Fr F0 w w' -> TE w.heap.size w' z { t with crit := if n < t.crit.length then t.crit.take n ++ t.crit.drop (n + 1) else t.crit } Z -> K z w' := hKc e
  refine ⟨s14, E.m.ld (i := 2) 2 rfl rfl, cnd_prop.2 ⟨fun hl => ?_, fun hl => ?_⟩⟩
  ·have hl : n < t.crit.length := by omega
   simp only [hl, if_true] at hK
   intro w139
   have E := E.fr (Fr.drew (F := F0))
   have E : EO w w139 _ bt bq b4 _ t := E
   clear_value w139
   have cap := E.o2.vw.cap
   have ew : IntKind.wrap .i64 ((n : Int) + 1) = ((n + 1 : Nat) : Int) := by rw [wrap64_in (by omega) (by omega)]; omega
   rw [ew]
   refine ⟨fun v => Rs v [(b4, zT), (bq, [.int .i64 q0, .int .i64 q1, .int .i64 q2]), (bt, T43.cs { y with f1 := s9, f2 := s14, f3 := s19, f11 := s24 })], E.m.2.1, s14, fun v hv => hv.ld (i := 2) 2 rfl rfl, ⟨by decide, by omega, by simp only at cap l2 ⊢; omega⟩, s14, fun v hv => hv.ld (i := 2) 2 rfl rfl, ⟨by omega, by simp only at cap l2 ⊢; omega⟩, ?_⟩
   intro w143
   have E' := E.fr (Fr.alloc (o := Obj.cells #[] 64))
   refine ⟨E'.m.2.1, copy_spec (E.o2.vw.take encC_length (j := n) (by omega)) encC_ok rfl (by simp; omega) (by simp; omega) fun s144 w145 h5 => ⟨(E.fr h5.fr0).m.2.1, ?_⟩⟩
   refine h5.app ((E.fr h5.fr0).o2.vw.drop encC_length (j := n + 1) (by omega)) encC_ok rfl (by simp; omega) (by simp; omega) fun s146 w147 h6 _ => ⟨(E.fr h6.fr0).m.2.1, ?_⟩
   exact Edit_set2 (l := t.crit.take n ++ t.crit.drop (n + 1)) E (fun u h => let R := R.fr h; ⟨R.name, R.low, R.high, R.fm, R.most, R.combos, R.io, R.budget, R.t1, R.t2, R.t3, R.t4, R.t5⟩) (h6.fr0.mono fun _ h => h.elim) h6.ow (fun b hb => .inr (h6.nw b hb)) hK
  ·have hl : ¬ n < t.crit.length := by omega
   simp only [hl, if_false] at hK
   exact Edit_no E (fun u h => R.fr h) hK
end
end Go.Proofs.YtfkmpbpkahcogaaGreatDoor
namespace Go.Proofs.YtfkmpbpkahcogaaGreatDoor
open Go Pw Dp
section
variable {w w' u : World} {x y : T43} {t : Td} {F : Nat -> Prop} {Z : List Sl}
theorem Ow.frY {α : Type} {n : Nat} {enc : α -> List Value} {s : Sl} {l : List α} (h : Ow n enc w s l) (hn : ∀ a, (enc a).length = n) (hF : ∀ b, F b -> ∃ y : T43, Row w b y.cs /\ ∀ a ∈ l, enc a ≠ y.cs.take n) (hF' : ∀ b, F b -> ∃ y : T43, Row w' b y.cs) (hf : Fr F w w') : Ow n enc w' s l := by
 cases l with
 | nil =>
  refine ⟨h.len, by simpa using h.own.1, ?_⟩
  rcases h.own.2 with h1 | ⟨b, cs, h1, h2, h3, h4, h5⟩
  ·exact .inl h1
  ·by_cases hb : F b
   ·obtain ⟨y, hy, _⟩ := hF b hb
    obtain ⟨y', hy'⟩ := hF' b hb
    have := h2.uniq2 hy
    exact .inr ⟨b, y'.cs, h1, hy', by rw [← h3, this]; rfl, h4, rfl⟩
   ·exact .inr ⟨b, cs, h1, hf.row h2 hb, h3, h4, h5⟩
 | cons a l =>
  refine h.frF hf fun b hb hFb => ?_
  obtain ⟨y, hy, hc⟩ := hF b hFb
  rcases h.own.2 with ⟨h1, _, _⟩ | ⟨b', cs, h1, h2, _, _, h5⟩
  ·obtain ⟨ad, ha, _⟩ := hb
   rw [h1] at ha
   cases ha
  ·obtain ⟨ad, ha, rfl⟩ := hb
   rw [h1] at ha
   cases ha
   have := h2.uniq hy
   subst this
   refine hc a (List.mem_cons_self ..) ?_
   have h6 := congrArg (List.take n) h5
   rw [List.take_take, Nat.min_eq_left (by rw [fm_length hn]; simp only [List.length_cons, Nat.add_mul]; omega)] at h6
   rw [h6, List.flatMap_cons, ← hn a, List.take_left]
theorem XQ.frY {P : Nat -> Prop} (hF : ∀ b, F b -> ∃ y : T43, Row w b y.cs) (hf : Fr F w w') : ∀ {e : Fm} {c : XC}, XQ P w e c -> XQ P w' e c
 | .num _ _, _, h => h
 | .name _, _, h => h
 | .op _ _ _, _, ⟨ca, cb, i, h1, h2, h5, hi, h3, h4⟩ => ⟨ca, cb, i, h1, h2, hf.row h5 fun hb => by
   obtain ⟨y, hy⟩ := hF _ hb
   exact absurd (hy.uniq2 h5) (by show ¬ (20 : Nat) = 10; decide), hi, h3.frY hF hf, h4.frY hF hf⟩
theorem TP0.fr (h : TP0 w x t) (hf : Fr F0 w w') : TP0 w' x t :=
 { h with lots := h.lots.fr hf, crit := h.crit.fr hf, reqs := h.reqs.fr hf, fm := h.fm.fr hf, ties := h.ties.fr hf }
theorem TW.fr (h : TW w x t Z) (hf : Fr F0 w w') : TW w' x t Z :=
 ⟨h.tp.fr hf, h.o1.fr hf, h.o2.fr hf, h.o3.fr hf, h.o4.fr hf, h.fm.imp fun _ hx => hx.frE hf, h.ne, h.io.fr hf⟩
theorem TE.fr {lo : Nat} (h : TE lo w x t Z) (hf : Fr F0 w w') : TE lo w' x t Z := ⟨h.tw.fr hf, h.oz.fr hf, h.nw⟩
theorem TW.ro (h : TW w x t Z) (ho : Ow 1 encZ w x.f13 Z) : RS0 w x t Z :=
 ⟨h.tp.name, h.tp.low, h.tp.high, h.fm, h.tp.most, ho, h.io, h.tp.budget, h.tp.t1, h.tp.t2, h.tp.t3, h.tp.t4, h.tp.t5⟩
theorem RS0.frY (h : RS0 w x t Z) (hF : ∀ b, F b -> ∃ y : T43, Row w b y.cs) (hF' : ∀ b, F b -> ∃ y : T43, Row w' b y.cs) (hf : Fr F w w') : RS0 w' x t Z :=
 { h with
  fm := h.fm.imp fun _ hx => hx.frY hF hf
  combos := Ow.frY h.combos encZ_length (fun b hb => let ⟨y, hy⟩ := hF b hb; ⟨y, hy, fun a _ e => by simp [encZ, T43.cs] at e⟩) hF' hf
  io := ⟨h.io.1, fun i a b => Ow.frY (h.io.2 i a b) encI_length (fun b hb => let ⟨y, hy⟩ := hF b hb; ⟨y, hy, fun a _ e => by simp [encI, T43.cs] at e⟩) hF' hf⟩ }
theorem TE.frB {lo : Nat} (h : TE lo w x t Z) (hlo : ∀ b, F b -> b < lo) (hF : ∀ b, F b -> ∃ y : T43, Row w b y.cs) (hF' : ∀ b, F b -> ∃ y : T43, Row w' b y.cs) (hf : Fr F w w') : TE lo w' x t Z := by
 have hn := h.nw
 refine TE.of ((h.tw.ro h.oz).frY hF hF' hf) (h.tw.o1.frF hf fun b hb e => ?_) (h.tw.o2.frF hf fun b hb e => ?_) (h.tw.o3.frF hf fun b hb e => ?_) (h.tw.o4.frF hf fun b hb e => ?_) h.tw.ne hn
 ·have := hn b (.inl hb); have := hlo b e; omega
 ·have := hn b (.inr (.inl hb)); have := hlo b e; omega
 ·have := hn b (.inr (.inr (.inl hb))); have := hlo b e; omega
 ·have := hn b (.inr (.inr (.inr hb))); have := hlo b e; omega
def zR : T43 := ⟨ofL [], ⟨none, 0, 0⟩, ⟨none, 0, 0⟩, ⟨none, 0, 0⟩, 0, 0, ofL [], 0, 0, ofL [], ⟨none, 0, 0⟩, ⟨none, 0, 0⟩, 0, ⟨none, 0, 0⟩, 0, 0, 0, 0, 0, 0⟩
theorem TW.frZ (h : TW w x t Z) (ho : Ow 1 encZ w x.f13 Z) (hF : ∀ b, F b -> Row w b zT) (hF' : ∀ b, F b -> ∃ y : T43, Row w' b y.cs) (hf : Fr F w w') : TE 0 w' x t Z := by
 have hY : ∀ b, F b -> ∃ y : T43, Row w b y.cs := fun b hb => ⟨zR, hF b hb⟩
 refine TE.of ((h.ro ho).frY hY hF' hf) (Ow.frY h.o1 encL_length (fun b hb => ⟨zR, hF b hb, fun a _ e => ?_⟩) hF' hf) (Ow.frY h.o2 encC_length (fun b hb => ⟨zR, hF b hb, fun a _ e => ?_⟩) hF' hf)
  (Ow.frY h.o3 encR_length (fun b hb => ⟨zR, hF b hb, fun a _ e => ?_⟩) hF' hf) (Ow.frY h.o4 encB_length (fun b hb => ⟨zR, hF b hb, fun a ha e => ?_⟩) hF' hf) h.ne fun _ _ => Nat.zero_le _
 ·simp [encL, T43.cs] at e
 ·simp [encC, T43.cs] at e
 ·simp [encR, T43.cs] at e
 ·simp [encB, zR, T43.cs] at e
  exact h.ne a ha (ofL_inj.1 e)
structure TD (D : Nat -> Prop) (w : World) (x : T43) (t : Td) (Z : List Sl) : Prop where
 tw : TW w x t Z
 oz : Ow 1 encZ w x.f13 Z
 dv : ∀ b, D b -> (t.lots ≠ [] -> ¬ inB x.f1 b) /\ (t.crit ≠ [] -> ¬ inB x.f2 b) /\ (t.reqs ≠ [] -> ¬ inB x.f3 b) /\ (t.ties ≠ [] -> ¬ inB x.f11 b)
theorem TD.te {D : Nat -> Prop} (h : TD D w x t Z) : TE 0 w x t Z := ⟨h.tw, h.oz, fun _ _ => Nat.zero_le _⟩
theorem TD.tp {D : Nat -> Prop} (h : TD D w x t Z) : TP w x t := h.te.tp
theorem TD.fr {D : Nat -> Prop} (h : TD D w x t Z) (hf : Fr F0 w w') : TD D w' x t Z := ⟨h.tw.fr hf, h.oz.fr hf, h.dv⟩
theorem Ow.frD {α : Type} {n : Nat} {enc : α -> List Value} {s : Sl} {l : List α} (h : Ow n enc w s l) (hn : ∀ a, (enc a).length = n) (hd : l ≠ [] -> ∀ b, F b -> ¬ inB s b) (hF : ∀ b, F b -> ∃ y : T43, Row w b y.cs) (hF' : ∀ b, F b -> ∃ y : T43, Row w' b y.cs) (hf : Fr F w w') : Ow n enc w' s l := by
 cases l with
 | nil => exact Ow.frY h hn (fun b hb => let ⟨y, hy⟩ := hF b hb; ⟨y, hy, fun a ha => by cases ha⟩) hF' hf
 | cons a l => exact h.frF hf fun b hb hFb => hd (by simp) b hFb hb
theorem TD.frB {D : Nat -> Prop} (h : TD D w x t Z) (hD : ∀ b, F b -> D b) (hF : ∀ b, F b -> ∃ y : T43, Row w b y.cs) (hF' : ∀ b, F b -> ∃ y : T43, Row w' b y.cs) (hf : Fr F w w') : TD D w' x t Z := by
 have k := TE.of (lo := 0) ((h.tw.ro h.oz).frY hF hF' hf) (Ow.frD h.tw.o1 encL_length (fun hl b hb => (h.dv b (hD b hb)).1 hl) hF hF' hf) (Ow.frD h.tw.o2 encC_length (fun hl b hb => (h.dv b (hD b hb)).2.1 hl) hF hF' hf)
  (Ow.frD h.tw.o3 encR_length (fun hl b hb => (h.dv b (hD b hb)).2.2.1 hl) hF hF' hf) (Ow.frD h.tw.o4 encB_length (fun hl b hb => (h.dv b (hD b hb)).2.2.2 hl) hF hF' hf) h.tw.ne fun _ _ => Nat.zero_le _
 exact ⟨k.tw, k.oz, h.dv⟩
theorem Ow.noZ {α : Type} {n b : Nat} {enc : α -> List Value} {s : Sl} {l : List α} (h : Ow n enc w s l) (hn : ∀ a, (enc a).length = n) (hc : ∀ a ∈ l, enc a ≠ zT.take n) (hr : Row w b zT) (hl : l ≠ []) : ¬ inB s b := by
 intro hb
 cases l with
 | nil => exact hl rfl
 | cons a l =>
  rcases h.own.2 with ⟨h1, _, _⟩ | ⟨b', cs, h1, h2, _, _, h5⟩
  ·obtain ⟨ad, ha, _⟩ := hb
   rw [h1] at ha
   cases ha
  ·obtain ⟨ad, ha, rfl⟩ := hb
   rw [h1] at ha
   cases ha
   have := h2.uniq hr
   subst this
   refine hc a (List.mem_cons_self ..) ?_
   have h6 := congrArg (List.take n) h5
   rw [List.take_take, Nat.min_eq_left (by rw [fm_length hn]; simp only [List.length_cons, Nat.add_mul]; omega)] at h6
   rw [h6, List.flatMap_cons, ← hn a, List.take_left]
theorem TW.dvZ (h : TW w x t Z) {b : Nat} (hr : Row w b zT) : (t.lots ≠ [] -> ¬ inB x.f1 b) /\ (t.crit ≠ [] -> ¬ inB x.f2 b) /\ (t.reqs ≠ [] -> ¬ inB x.f3 b) /\ (t.ties ≠ [] -> ¬ inB x.f11 b) := by
 refine ⟨Ow.noZ h.o1 encL_length (fun a _ e => ?_) hr, Ow.noZ h.o2 encC_length (fun a _ e => ?_) hr, Ow.noZ h.o3 encR_length (fun a _ e => ?_) hr, Ow.noZ h.o4 encB_length (fun a ha e => ?_) hr⟩
 ·simp [encL, zT, T43.cs] at e
 ·simp [encC, zT, T43.cs] at e
 ·simp [encR, zT, T43.cs] at e
 ·simp [encB, zT, T43.cs] at e
  exact h.ne a ha (ofL_inj.1 e)
theorem two_box {b1 b2 : Nat} {r1 r2 : T43} {t1 t2 : Td} {Z1 Z2 : List Sl} {S J : World -> Prop} (h1 : Row w b1 zT) (h2 : Row w b2 zT) (hne : b1 ≠ b2) (T1 : TW w r1 t1 Z1) (O1 : Ow 1 encZ w r1.f13 Z1) (T2 : TW w r2 t2 Z2) (O2 : Ow 1 encZ w r2.f13 Z2)
  (hS : ∀ u, Fr (fun c => c = b1) w u -> S u) (hJ : ∀ u, Fr (fun c => c = b1 \/ c = b2) w u -> Row u b1 r1.cs -> Row u b2 r2.cs -> TD (fun c => c = b1 \/ c = b2) u r1 t1 Z1 -> TD (fun c => c = b1 \/ c = b2) u r2 t2 Z2 -> J u) : stN w ⟨b1, 0, none⟩ r1.cs fun w18 => S w18 /\ stN w18 ⟨b2, 0, none⟩ r2.cs J := by
 refine stN_fr h1 rfl fun w18 f18 q1 => ⟨hS w18 f18, ?_⟩
 refine stN_fr (f18.row h2 fun e => hne e.symm) rfl fun w19 f19 q2 => ?_
 have f : Fr (fun c => c = b1 \/ c = b2) w w19 := (f18.mono fun _ h => .inl h).trans f19 fun _ h _ => .inr h
 have hF : ∀ b, b = b1 \/ b = b2 -> Row w b zT := by rintro b (rfl | rfl) <;> assumption
 have q1 := f19.row q1 hne
 have hF' : ∀ b, b = b1 \/ b = b2 -> ∃ y : T43, Row w19 b y.cs := by
  rintro b (rfl | rfl)
  ·exact ⟨_, q1⟩
  ·exact ⟨_, q2⟩
 have e1 := T1.frZ O1 hF hF' f
 have e2 := T2.frZ O2 hF hF' f
 exact hJ w19 f q1 q2 ⟨e1.tw, e1.oz, fun b hb => T1.dvZ (hF b hb)⟩ ⟨e2.tw, e2.oz, fun b hb => T2.dvZ (hF b hb)⟩
theorem edit_store {b k lo : Nat} {q0 q1 q2 : Int} {J : World -> Prop} (hr : Row w b x.cs) (hT : TE lo w x t Z) (hF : FitK (k + 1) t) (hJ : ∀ u x' Z', Fr (fun c => c = b) w u -> Row u b x'.cs -> TE w.heap.size u x' (editP t q0 q1 q2) Z' -> J u) :
  z1i_sh x q0 q1 q2 (fun r w40 => stN w40 ⟨b, 0, none⟩ r.cs J) w := by
 refine Edit_spec hT hF fun w40 r Z' f40 U => ?_
 have hr40 := f40.row hr fun h => h
 refine stN_fr hr40 rfl fun w42 f42 hr42 => ?_
 have hb := hr.lt
 refine hJ w42 r Z' ((f40.mono fun _ h => h.elim).trans f42 fun _ h _ => h) hr42 (U.frB (F := fun c => c = b) (fun c hc => by rw [show c = b from hc]; exact hb) (fun c hc => ⟨x, by rw [show c = b from hc]; exact hr40⟩) (fun c hc => ⟨r, by rw [show c = b from hc]; exact hr42⟩) f42)
end
end Go.Proofs.YtfkmpbpkahcogaaGreatDoor
set_option maxRecDepth 20000
