/- A plan among the arguments. Conditions: none. -/
import Derived.Test.YtfkmpbpkahcogaaGreatDoorDRTX
import Derived.Test.YtfkmpbpkahcogaaGreatDoorPLR
import Derived.Deep.Slices
import Derived.ChangeArms
namespace Go.Proofs.YtfkmpbpkahcogaaGreatDoor
open Go Pw Dp Go.ChangeShapes Go.WideShapes Go.ChangeAt Go.RowKit
section
variable {H : Type} {enc : TypeId × Value -> H} {P : Program} {W : World}
theorem cell_arr {n fuel : Nat} {e g : TypeId} {cs : List Value} {y : DataW H × List MemPlace} (he : P.underlying e = some (.array n g)) (hg : P.underlying g = some (.int .i64)) (hc : P.cellsOf g = 1) (hl : cs.length = n)
  (h : DataW.trod enc P W 0 (fun _ => true) true fuel e cs = some y) : ∃ l : List Int, l.length = n /\ cs = l.map (Value.int .i64) /\ ∀ i ∈ l, I64 i := by
 obtain ⟨xs, m, _, _, _, hx, hat⟩ := DataW.trod_array he h
 have key : ∀ i (hi : i < cs.length), ∃ x : Int, cs[i] = Value.int .i64 x /\ (Lit.int .i64 x).wf = true := by
  intro i hi
  have h0 := hat i (by omega)
  rw [hc, Nat.mul_one] at h0
  have hxi : i < xs.length := by omega
  rw [List.getElem?_eq_getElem hxi] at h0
  obtain ⟨x, hx', _, hw⟩ := DataW.trod_int hg h0
  refine ⟨x, ?_, hw⟩
  rw [List.drop_eq_getElem_cons hi, List.take_succ_cons, List.take_zero] at hx'
  exact (List.cons.inj hx').1
 refine ⟨cs.map fun v => match v with | .int _ x => x | _ => 0, by simp [hl], ?_, ?_⟩
 ·apply List.ext_getElem
  ·simp
  ·intro i h1 h2
   obtain ⟨x, hx', _⟩ := key i h1
   simp [hx']
 ·intro x hx
  simp only [List.mem_map] at hx
  obtain ⟨v, hv, rfl⟩ := hx
  obtain ⟨i, hi, rfl⟩ := List.getElem_of_mem hv
  obtain ⟨y, hy, hw⟩ := key i hi
  rw [hy]
  exact wf_i64 hw
theorem cell_slice {α : Type} {encA : α -> List Value} {n fuel : Nat} {F : α -> Prop} {t e : TypeId} {cs : List Value} {x : DataW H × List MemPlace} (ht : P.underlying t = some (.slice e)) (hc : P.cellsOf e = n) (hn : ∀ a, (encA a).length = n) (hn0 : 0 < n)
  (hop : ∀ fuel cs y, cs.length = n -> DataW.trod enc P W 0 (fun _ => true) true fuel e cs = some y -> ∃ a, cs = encA a /\ F a)
  (h : DataW.trod enc P W 0 (fun _ => true) true fuel t cs = some x) : ∃ (q : Sl) (l : List α), cs = [.slice q.p q.l q.c] /\ Vw n encA W q l /\ ∀ a ∈ l, F a := by
 rcases Go.Deep.open_slice ht h with ⟨rfl, _⟩ | ⟨a', len, cap, m, n', D, Pl, rfl, _, hle, _, hm, hx, hel⟩
 ·exact ⟨⟨none, 0, 0⟩, [], rfl, Vw.nil, fun a h => by cases h⟩
 ·simp only [if_true] at hm
  subst hm
  rw [hc] at hel
  have key : ∀ i, i < len -> ∃ q : α, F q /\ ∀ j, j < n -> W.cell? ((a'.add (i * n)).add j) = (encA q)[j]? := fun i hi => by
   obtain ⟨cs', g1, g2⟩ := hel i (by omega)
   obtain ⟨_, hlen, hcell⟩ := World.cells?_some g1
   obtain ⟨q, rfl, hq⟩ := hop _ _ _ hlen g2
   exact ⟨q, hq, hcell⟩
  let qs := (List.range len).pmap (fun i (hi : i < len) => Classical.choose (key i hi)) (fun i hi => List.mem_range.1 hi)
  have hql : qs.length = len := by simp [qs]
  have hq : ∀ i (hi : i < qs.length), F qs[i] /\ ∀ j, j < n -> W.cell? ((a'.add (i * n)).add j) = (encA qs[i])[j]? := fun i hi => by
   have hi' : i < len := by omega
   have e : qs[i] = Classical.choose (key i hi') := by simp [qs]
   rw [e]
   exact Classical.choose_spec (key i hi')
  clear_value qs
  refine ⟨⟨some a', len, m⟩, qs, rfl, ⟨hql.symm, hle, ?_⟩, fun a ha => ?_⟩
  ·refine ⟨by rw [fm_length hn]; simp [hql], fun i hi => ?_⟩
   rw [fm_length hn] at hi
   have hin : i / n < qs.length := Nat.div_lt_of_lt_mul (by rw [Nat.mul_comm]; exact hi)
   have hmod := Nat.mod_lt i hn0
   have h2 := (hq (i / n) hin).2 (i % n) hmod
   have h3 := fm_at hn qs (i / n) (i % n) qs[i / n] (List.getElem?_eq_getElem hin) hmod
   rw [add_add] at h2
   have e : i / n * n + i % n = i := by rw [Nat.mul_comm]; exact Nat.div_add_mod i n
   rw [e] at h2 h3
   rw [h2, ← h3]
   exact List.getElem?_eq_getElem _
  ·obtain ⟨i, hi, rfl⟩ := List.mem_iff_getElem.1 ha
   exact (hq i hi).1
theorem cell_ints {fuel : Nat} {t e : TypeId} {cs : List Value} {x : DataW H × List MemPlace} (ht : P.underlying t = some (.slice e)) (he : P.underlying e = some (.int .i64)) (hc : P.cellsOf e = 1)
  (h : DataW.trod enc P W 0 (fun _ => true) true fuel t cs = some x) : ∃ (q : Sl) (l : List Int), cs = [.slice q.p q.l q.c] /\ Vw 1 (fun n => [Value.int .i64 n]) W q l /\ ∀ a ∈ l, I64 a :=
 cell_slice ht hc (fun _ => rfl) (by decide) (fun fuel cs y _ h => by
  obtain ⟨a, ha, _, w⟩ := DataW.trod_int he h
  exact ⟨a, ha, wf_i64 w⟩) h
theorem cell_l2 {fuel : Nat} {t e g : TypeId} {cs : List Value} {x : DataW H × List MemPlace} (ht : P.underlying t = some (.slice e)) (he : P.underlying e = some (.array 2 g)) (hg : P.underlying g = some (.int .i64)) (ce : P.cellsOf e = 2) (cg : P.cellsOf g = 1)
  (h : DataW.trod enc P W 0 (fun _ => true) true fuel t cs = some x) : ∃ (q : Sl) (l : List (Int × Int)), cs = [.slice q.p q.l q.c] /\ Vw 2 encL W q l /\ ∀ a ∈ l, I64 a.2 :=
 cell_slice ht ce encL_length (by decide) (fun fuel cs y hl h => by
  obtain ⟨l, h1, rfl, h2⟩ := cell_arr he hg cg hl h
  match l, h1 with
  | [a, b], _ => exact ⟨(a, b), rfl, h2 b (by simp)⟩) h
theorem cell_l3 {fuel : Nat} {t e g : TypeId} {cs : List Value} {x : DataW H × List MemPlace} (ht : P.underlying t = some (.slice e)) (he : P.underlying e = some (.array 3 g)) (hg : P.underlying g = some (.int .i64)) (ce : P.cellsOf e = 3) (cg : P.cellsOf g = 1)
  (h : DataW.trod enc P W 0 (fun _ => true) true fuel t cs = some x) : ∃ (q : Sl) (l : List (Int × Int × Int)), cs = [.slice q.p q.l q.c] /\ Vw 3 encT3 W q l /\ ∀ a ∈ l, I64 a.1 /\ I64 a.2.1 /\ I64 a.2.2 :=
 cell_slice ht ce encT3_length (by decide) (fun fuel cs y hl h => by
  obtain ⟨l, h1, rfl, h2⟩ := cell_arr he hg cg hl h
  match l, h1 with
  | [a, b, c], _ => exact ⟨(a, b, c), rfl, h2 a (by simp), h2 b (by simp), h2 c (by simp)⟩) h
theorem cell_l4 {fuel : Nat} {t e g : TypeId} {cs : List Value} {x : DataW H × List MemPlace} (ht : P.underlying t = some (.slice e)) (he : P.underlying e = some (.array 4 g)) (hg : P.underlying g = some (.int .i64)) (ce : P.cellsOf e = 4) (cg : P.cellsOf g = 1)
  (h : DataW.trod enc P W 0 (fun _ => true) true fuel t cs = some x) : ∃ (q : Sl) (l : List (Int × Int × Int × Int)), cs = [.slice q.p q.l q.c] /\ Vw 4 encT4 W q l /\ ∀ a ∈ l, I64 a.2.2.1 /\ I64 a.2.2.2 :=
 cell_slice ht ce encT4_length (by decide) (fun fuel cs y hl h => by
  obtain ⟨l, h1, rfl, h2⟩ := cell_arr he hg cg hl h
  match l, h1 with
  | [a, b, c, d], _ => exact ⟨(a, b, c, d), rfl, h2 c (by simp), h2 d (by simp)⟩) h
theorem cell_cp {fuel : Nat} {t e g : TypeId} {cs : List Value} {x : DataW H × List MemPlace} (ht : P.underlying t = some (.slice e)) (he : P.underlying e = some (.slice g)) (hg : P.underlying g = some (.int .i64)) (ce : P.cellsOf e = 1) (cg : P.cellsOf g = 1)
  (h : DataW.trod enc P W 0 (fun _ => true) true fuel t cs = some x) : ∃ (q : Sl) (l : List (List Int)), cs = [.slice q.p q.l q.c] /\ CP W q l /\ ∀ a ∈ l, ∀ i ∈ a, I64 i := by
 obtain ⟨q, l, h1, h2, h3⟩ := cell_slice (α := Sl × List Int) (encA := fun z => encZ z.1) (F := fun z => Vw 1 encI W z.1 z.2 /\ ∀ i ∈ z.2, I64 i) ht ce (fun _ => rfl) (by decide) (fun fuel cs y _ h => by
  obtain ⟨q, l, h1, h2, h3⟩ := cell_ints he hg cg h
  exact ⟨(q, l), h1, h2, h3⟩) h
 refine ⟨q, l.map (·.2), h1, ⟨l.map (·.1), ⟨by rw [h2.len]; simp, h2.cap, ?_⟩, by simp, fun i a b => ?_⟩, fun a ha => ?_⟩
 ·have e : (l.map (·.1)).flatMap encZ = l.flatMap fun z => encZ z.1 := by rw [List.flatMap_map]
  rw [e]
  exact h2.rd
 ·simp only [List.getElem_map]
  exact (h3 _ (List.getElem_mem (by simpa using a))).1
 ·obtain ⟨z, hz, rfl⟩ := List.mem_map.1 ha
  exact (h3 z hz).2
theorem arg_plan {r : Reach} {b0 : Nat} {t : TypeId} {a2 a3 a4 g s1 : TypeId} {f0 f1 f2 f3 f4 f5 f6 : Field} {v : Value} {d : DataW H} {ps : List MemPlace} (ht : P.underlying t = some (.struct #[f0, f1, f2, f3, f4, f5, f6]))
  (u0 : P.underlying f0.type = some (.slice a2)) (u1 : P.underlying f1.type = some (.slice a4)) (u2 : P.underlying f2.type = some (.slice a3)) (u3 : P.underlying f3.type = some (.slice g)) (u4 : P.underlying f4.type = some (.slice g)) (u5 : P.underlying f5.type = some (.slice s1)) (u6 : P.underlying f6.type = some (.array 10 g))
  (w2 : P.underlying a2 = some (.array 2 g)) (w4 : P.underlying a4 = some (.array 4 g)) (w3 : P.underlying a3 = some (.array 3 g)) (ws : P.underlying s1 = some (.slice g)) (wg : P.underlying g = some (.int .i64))
  (o : f0.offset = 0 /\ f1.offset = 1 /\ f2.offset = 2 /\ f3.offset = 3 /\ f4.offset = 4 /\ f5.offset = 5 /\ f6.offset = 6) (c : P.cellsOf f0.type = 1 /\ P.cellsOf f1.type = 1 /\ P.cellsOf f2.type = 1 /\ P.cellsOf f3.type = 1 /\ P.cellsOf f4.type = 1 /\ P.cellsOf f5.type = 1 /\ P.cellsOf f6.type = 10)
  (k : P.cellsOf t = 16 /\ P.cellsOf a2 = 2 /\ P.cellsOf a4 = 4 /\ P.cellsOf a3 = 3 /\ P.cellsOf s1 = 1 /\ P.cellsOf g = 1) (hval : Value.okWide P W r b0 t v) (h : DataW.Trod enc P W 0 (fun _ => true) true t v d ps) :
  ∃ (x : T29) (p : Pn), v = .agg x.cs.toArray /\ PP W x p /\ PFit p := by
 obtain ⟨o0, o1, o2, o3, o4, o5, o6⟩ := o
 obtain ⟨c0, c1, c2, c3, c4, c5, c6⟩ := c
 obtain ⟨k0, k1, k2, k3, k4, k5⟩ := k
 unfold Value.okWide at hval
 rw [ht] at hval
 obtain ⟨cs, rfl, hsz, _⟩ := hval
 obtain ⟨fuel, hf⟩ := h
 obtain ⟨xs, n, _, _, hl, hlen, hx⟩ := DataW.trod_struct ht hf
 rw [k0] at hsz
 have at' : ∀ (j : Nat) (f : Field), #[f0, f1, f2, f3, f4, f5, f6][j]? = some f -> ∃ y, DataW.trod enc P W 0 (fun _ => true) true n f.type ((cs.toList.drop f.offset).take (P.cellsOf f.type)) = some y := by
  intro j f hj
  have hj' := (Array.getElem?_eq_some_iff.1 hj).1
  have hj2 : j < xs.length := by rw [hlen]; simpa using hj'
  have := hx j f hj
  rw [List.getElem?_eq_getElem hj2] at this
  exact ⟨_, this⟩
 obtain ⟨y0, q0⟩ := at' 0 f0 rfl
 obtain ⟨y1, q1⟩ := at' 1 f1 rfl
 obtain ⟨y2, q2⟩ := at' 2 f2 rfl
 obtain ⟨y3, q3⟩ := at' 3 f3 rfl
 obtain ⟨y4, q4⟩ := at' 4 f4 rfl
 obtain ⟨y5, q5⟩ := at' 5 f5 rfl
 obtain ⟨y6, q6⟩ := at' 6 f6 rfl
 rw [o0, c0] at q0
 rw [o1, c1] at q1
 rw [o2, c2] at q2
 rw [o3, c3] at q3
 rw [o4, c4] at q4
 rw [o5, c5] at q5
 rw [o6, c6] at q6
 obtain ⟨z0, l0, e0, v0, i0⟩ := cell_l2 u0 w2 wg k1 k5 q0
 obtain ⟨z1, l1, e1, v1, i1⟩ := cell_l4 u1 w4 wg k2 k5 q1
 obtain ⟨z2, l2, e2, v2, i2⟩ := cell_l3 u2 w3 wg k3 k5 q2
 obtain ⟨z3, l3, e3, v3, i3⟩ := cell_ints u3 wg k5 q3
 obtain ⟨z4, l4, e4, v4, i4⟩ := cell_ints u4 wg k5 q4
 obtain ⟨z5, l5, e5, v5, i5⟩ := cell_cp u5 ws wg k4 k5 q5
 obtain ⟨l6, n6, e6, i6⟩ := cell_arr u6 wg k5 (by simp [hsz]) q6
 obtain ⟨o0, o1, o2, o3, o4, o5, o6, o7, o8, o9, rfl⟩ : ∃ a b c d e f g h i j, l6 = [a, b, c, d, e, f, g, h, i, j] := by
  match l6, n6 with
  | [a, b, c, d, e, f, g, h, i, j], _ => exact ⟨a, b, c, d, e, f, g, h, i, j, rfl⟩
 refine ⟨⟨z0, z1, z2, z3, z4, z5, o0, o1, o2, o3, o4, o5, o6, o7, o8, o9⟩, ⟨l0, l1, l2, l3, l4, l5, o0, o1, o2, o3, o4, o5, o6, o7, o8, o9⟩, ?_, ⟨v0, v1, v2, v3, v4, v5, rfl, rfl, rfl, rfl, rfl, rfl, rfl, rfl, rfl, rfl⟩, ⟨i0, i1, fun l hl => (i2 l hl).2.2, i5, i6 _ (by simp), i6 _ (by simp), i6 _ (by simp), i6 _ (by simp), i6 _ (by simp), i6 _ (by simp), i6 _ (by simp), i6 _ (by simp), i6 _ (by simp), i6 _ (by simp)⟩⟩
 congr 1
 rcases cs with ⟨cs⟩
 congr 1
 simp only at e0 e1 e2 e3 e4 e5 e6 hsz
 have hs16 : cs.length = 16 := hsz
 match cs, hs16 with
 | [d0, d1, d2, d3, d4, d5, d6, d7, d8, d9, d10, d11, d12, d13, d14, d15], _ =>
  simp at e0 e1 e2 e3 e4 e5 e6
  obtain ⟨r6, r7, r8, r9, r10, r11, r12, r13, r14, r15⟩ := e6
  subst e0 e1 e2 e3 e4 e5 r6 r7 r8 r9 r10 r11 r12 r13 r14 r15
  rfl
theorem arg_lots {r : Reach} {b0 : Nat} {t e : TypeId} {v : Value} {d : DataW H} {ps : List MemPlace} (ht : P.underlying t = some (.slice e)) (he : P.underlying e = some (.int .i64)) (hc : P.cellsOf e = 1)
  (hval : Value.okWide P W r b0 t v) (h : DataW.Trod enc P W 0 (fun _ => true) true t v d ps) :
  ∃ (q : Sl) (l : List Int), v = .slice q.p q.l q.c /\ Vw 1 encI W q l /\ (∀ n ∈ l, I64 n) /\ ∀ R b, P.bytesOf e = b -> (∀ n ∈ d.weights P t, n <= R) -> l.length * b <= R := by
 obtain ⟨q, l, h1, h2, h3, _, h5⟩ := arg_viR ht he hc hval h
 exact ⟨q, l, h1, h2, fun n hn => wf_i64 (h3 n hn), h5⟩
end
end Go.Proofs.YtfkmpbpkahcogaaGreatDoor
namespace Go.Proofs.YtfkmpbpkahcogaaGreatDoor
open Go Pw Dp
structure FitK (k : Nat) (t : Td) : Prop where
 fp : t.fm.parts + 2 * k <= 2 ^ 29
 name : t.name.length <= 2 ^ 20
 lots : t.lots.length + k <= 2 ^ 19
 crit : t.crit.length <= 2 ^ 19
 reqs : t.reqs.length <= 2 ^ 19
 ties : t.ties.length + k <= 2 ^ 19
 combos : t.combos.length + k <= 2 ^ 19
 lot : ∀ l ∈ t.lots, I64 l.1 /\ I64 l.2
 cr : ∀ c ∈ t.crit, c.name.length <= 2 ^ 20 /\ I64 c.kind /\ I64 c.low /\ I64 c.high
 rq : ∀ r ∈ t.reqs, r.name.length <= 2 ^ 20 /\ r.rel.length <= 2 ^ 20 /\ I64 r.val
 tie : ∀ s ∈ t.ties, s.length <= 2 ^ 20
 combo : ∀ l ∈ t.combos, l.length <= 2 ^ 20 /\ ∀ i ∈ l, I64 i
 low : I64 t.low
 high : I64 t.high
 most : I64 t.most
 budget : I64 t.budget
 t1 : I64 t.t1
 t2 : I64 t.t2
 t3 : I64 t.t3
 t4 : I64 t.t4
 t5 : I64 t.t5
theorem FitK.fit {k : Nat} {t : Td} (h : FitK k t) : Fit t :=
 { h with fp := by have := h.fp; omega, lots := by have := h.lots; omega, crit := by have := h.crit; omega, reqs := by have := h.reqs; omega, ties := by have := h.ties; omega, combos := by have := h.combos; omega }
theorem tdP_fitK {p : Pn} (h : PFit p) : FitK 100 (tdP p) := by
 have hF := tdP_fit h
 have := made_parts p.form
 exact { hF with fp := by simp only [tdP]; omega, lots := by simp [tdP]; omega, crit := by simp [tdP]; omega, reqs := by simp [tdP]; omega, ties := by simp [tdP]; omega, combos := by simp [tdP]; omega }
end Go.Proofs.YtfkmpbpkahcogaaGreatDoor
namespace Go.Proofs.YtfkmpbpkahcogaaGreatDoor
open Go Pw Dp
structure RS0 (w : World) (x : T43) (t : Td) (Z : List Sl) : Prop where
 name : x.f0 = ofL t.name
 low : x.f4 = t.low
 high : x.f5 = t.high
 fm : ∃ P, XQ P w t.fm ⟨x.f6, x.f7, x.f8, x.f9, x.f10⟩
 most : x.f12 = t.most
 combos : Ow 1 encZ w x.f13 Z
 io : IoZ w Z t.combos
 budget : x.f14 = t.budget
 t1 : x.f15 = t.t1
 t2 : x.f16 = t.t2
 t3 : x.f17 = t.t3
 t4 : x.f18 = t.t4
 t5 : x.f19 = t.t5
theorem XQ.frE {P : Nat -> Prop} {w w' : World} (hf : Fr F0 w w') : ∀ {e : Fm} {c : XC}, XQ P w e c -> XQ P w' e c
 | .num _ _, _, h => h
 | .name _, _, h => h
 | .op _ _ _, _, ⟨ca, cb, i, h1, h2, h5, hi, h3, h4⟩ => ⟨ca, cb, i, h1, h2, hf.row h5 fun h => h, hi, h3.frE hf, h4.frE hf⟩
theorem IoZ.fr {w w' : World} {Z : List Sl} {L : List (List Int)} (h : IoZ w Z L) (hf : Fr F0 w w') : IoZ w' Z L := ⟨h.1, fun i a b => (h.2 i a b).fr hf⟩
structure TE (lo : Nat) (w : World) (x : T43) (t : Td) (Z : List Sl) : Prop where
 tw : TW w x t Z
 oz : Ow 1 encZ w x.f13 Z
 nw : ∀ b, inB x.f1 b \/ inB x.f2 b \/ inB x.f3 b \/ inB x.f11 b -> lo <= b
theorem TE.of {lo : Nat} {w : World} {x : T43} {t : Td} {Z : List Sl} (R : RS0 w x t Z) (o1 : Ow 2 encL w x.f1 t.lots) (o2 : Ow 5 encC w x.f2 t.crit) (o3 : Ow 3 encR w x.f3 t.reqs) (o4 : Ow 1 encB w x.f11 t.ties) (ne : ∀ s ∈ t.ties, s ≠ []) (nw : ∀ b, inB x.f1 b \/ inB x.f2 b \/ inB x.f3 b \/ inB x.f11 b -> lo <= b) : TE lo w x t Z := by
 obtain ⟨P, hx⟩ := R.fm
 exact ⟨⟨⟨R.name, o1.vw, o2.vw, o3.vw, R.low, R.high, hx.xp, o4.vw, R.most, R.budget, R.t1, R.t2, R.t3, R.t4, R.t5⟩, o1, o2, o3, o4, ⟨P, hx⟩, ne, R.io⟩, R.combos, nw⟩
theorem TE.tp {lo : Nat} {w : World} {x : T43} {t : Td} {Z : List Sl} (h : TE lo w x t Z) : TP w x t := h.tw.tp.tp ⟨Z, h.oz.vw, h.tw.io.inz⟩
end Go.Proofs.YtfkmpbpkahcogaaGreatDoor

namespace Pw
open Go
theorem copy0 {α : Type} {n : Nat} {enc : α -> List Value} {v : World} {b : Nat} {x : Sl} {l : List α} {bytes e : Nat} {zero : List Value} {K : SW} (hn : ∀ a, (enc a).length = n) (hr : Row v b []) (hx : Vw n enc v x l) (hok : ∀ a, ∀ v ∈ enc a, okC v = true) (hz : zero.length = n) (hb : l.length * bytes <= 2 ^ 47) (hm : l.length < 2 ^ 63)
  (hK : ∀ s u, Ow n enc u s l -> Fr F0 v u -> (∀ c, inB s c -> c = b \/ v.heap.size <= c) -> K s u) : apS n bytes zero e ⟨some ⟨b, 0, none⟩, 0, 0⟩ x v K := by
 have hl := hx.len
 have hlen : (l.flatMap enc).length = l.length * n := fm_length hn l
 refine ⟨l.flatMap enc, hx.rd, fun v hv => ?_, fun hc => ?_, fun hc => ⟨by simpa [hl] using hb, by simpa [hl] using hm, [], ⟨by simp, fun i hi => absurd hi (by simp)⟩, fun cap hcap => ?_⟩⟩
 ·obtain ⟨a, _, ha⟩ := List.mem_flatMap.1 hv
  exact hok a v ha
 ·have h0 : l = [] := List.eq_nil_of_length_eq_zero (by simp only at hc; omega)
  subst h0
  have h0 : x.l = 0 := by simpa using hl
  rw [h0]
  refine ⟨fun i hi => absurd hi (by simp), hK _ _ ⟨rfl, by simp, .inr ⟨b, [], rfl, hr, by simp, Nat.le_refl _, rfl⟩⟩ Fr.refl fun c ⟨a, ha, hc⟩ => ?_⟩
  cases ha
  exact .inl hc.symm
 ·simp only [Nat.zero_add] at hcap ⊢
  refine hK _ _ ⟨by simp [newSl, hl], by simp [newSl, hl, hlen], .inr ⟨v.heap.size, _, rfl, Row.new (w := v.drew), ?_, hcap, ?_⟩⟩ (Fr.drew.trans (Fr.alloc (F := F0)) fun _ h _ => h) fun c ⟨a, ha, hc⟩ => ?_
  ·simp [rowZ_length, hlen, hz, newSl, hl]
   rw [← Nat.add_mul]
   congr 1
   omega
  ·simp
  ·cases ha
   exact .inr (by rw [← hc]; exact Nat.le_refl _)
end Pw

namespace Go.Proofs.YtfkmpbpkahcogaaGreatDoor
open Go Pw Dp
section
variable {w w' u : World} {x y : T43} {t : Td} {F : Nat -> Prop} {Z : List Sl}
theorem Ow.frY {α : Type} {n : Nat} {enc : α -> List Value} {s : Sl} {l : List α} (h : Ow n enc w s l) (hn : ∀ a, (enc a).length = n) (hF : ∀ b, F b -> ∃ y : T43, Row w b y.cs /\ ∀ a ∈ l, enc a ≠ y.cs.take n) (hF' : ∀ b, F b -> ∃ y : T43, Row w' b y.cs) (hf : Fr F w w') : Ow n enc w' s l := by
 cases l with
 | nil =>
  refine ⟨h.len, by simpa using h.own.1, ?_⟩
  rcases h.own.2 with h1 | ⟨b, cs, h1, h2, h3, h4, h5⟩
  ·exact .inl h1
  ·by_cases hb : F b
   ·obtain ⟨y, hy, _⟩ := hF b hb
    obtain ⟨y', hy'⟩ := hF' b hb
    have := h2.uniq2 hy
    exact .inr ⟨b, y'.cs, h1, hy', by rw [← h3, this]; rfl, h4, rfl⟩
   ·exact .inr ⟨b, cs, h1, hf.row h2 hb, h3, h4, h5⟩
 | cons a l =>
  refine h.frF hf fun b hb hFb => ?_
  obtain ⟨y, hy, hc⟩ := hF b hFb
  rcases h.own.2 with ⟨h1, _, _⟩ | ⟨b', cs, h1, h2, _, _, h5⟩
  ·obtain ⟨ad, ha, _⟩ := hb
   rw [h1] at ha
   cases ha
  ·obtain ⟨ad, ha, rfl⟩ := hb
   rw [h1] at ha
   cases ha
   have := h2.uniq hy
   subst this
   refine hc a (List.mem_cons_self ..) ?_
   have h6 := congrArg (List.take n) h5
   rw [List.take_take, Nat.min_eq_left (by rw [fm_length hn]; simp only [List.length_cons, Nat.add_mul]; omega)] at h6
   rw [h6, List.flatMap_cons, ← hn a, List.take_left]
theorem XQ.frY {P : Nat -> Prop} (hF : ∀ b, F b -> ∃ y : T43, Row w b y.cs) (hf : Fr F w w') : ∀ {e : Fm} {c : XC}, XQ P w e c -> XQ P w' e c
 | .num _ _, _, h => h
 | .name _, _, h => h
 | .op _ _ _, _, ⟨ca, cb, i, h1, h2, h5, hi, h3, h4⟩ => ⟨ca, cb, i, h1, h2, hf.row h5 fun hb => by
   obtain ⟨y, hy⟩ := hF _ hb
   exact absurd (hy.uniq2 h5) (by show ¬ (20 : Nat) = 10; decide), hi, h3.frY hF hf, h4.frY hF hf⟩
theorem TP0.fr (h : TP0 w x t) (hf : Fr F0 w w') : TP0 w' x t :=
 { h with lots := h.lots.fr hf, crit := h.crit.fr hf, reqs := h.reqs.fr hf, fm := h.fm.fr hf, ties := h.ties.fr hf }
theorem TW.fr (h : TW w x t Z) (hf : Fr F0 w w') : TW w' x t Z :=
 ⟨h.tp.fr hf, h.o1.fr hf, h.o2.fr hf, h.o3.fr hf, h.o4.fr hf, h.fm.imp fun _ hx => hx.frE hf, h.ne, h.io.fr hf⟩
theorem TW.ro (h : TW w x t Z) (ho : Ow 1 encZ w x.f13 Z) : RS0 w x t Z :=
 ⟨h.tp.name, h.tp.low, h.tp.high, h.fm, h.tp.most, ho, h.io, h.tp.budget, h.tp.t1, h.tp.t2, h.tp.t3, h.tp.t4, h.tp.t5⟩
theorem RS0.frY (h : RS0 w x t Z) (hF : ∀ b, F b -> ∃ y : T43, Row w b y.cs) (hF' : ∀ b, F b -> ∃ y : T43, Row w' b y.cs) (hf : Fr F w w') : RS0 w' x t Z :=
 { h with
  fm := h.fm.imp fun _ hx => hx.frY hF hf
  combos := Ow.frY h.combos encZ_length (fun b hb => let ⟨y, hy⟩ := hF b hb; ⟨y, hy, fun a _ e => by simp [encZ, T43.cs] at e⟩) hF' hf
  io := ⟨h.io.1, fun i a b => Ow.frY (h.io.2 i a b) encI_length (fun b hb => let ⟨y, hy⟩ := hF b hb; ⟨y, hy, fun a _ e => by simp [encI, T43.cs] at e⟩) hF' hf⟩ }
def zR : T43 := ⟨ofL [], ⟨none, 0, 0⟩, ⟨none, 0, 0⟩, ⟨none, 0, 0⟩, 0, 0, ofL [], 0, 0, ofL [], ⟨none, 0, 0⟩, ⟨none, 0, 0⟩, 0, ⟨none, 0, 0⟩, 0, 0, 0, 0, 0, 0⟩
theorem TW.frZ (h : TW w x t Z) (ho : Ow 1 encZ w x.f13 Z) (hF : ∀ b, F b -> Row w b zT) (hF' : ∀ b, F b -> ∃ y : T43, Row w' b y.cs) (hf : Fr F w w') : TE 0 w' x t Z := by
 have hY : ∀ b, F b -> ∃ y : T43, Row w b y.cs := fun b hb => ⟨zR, hF b hb⟩
 refine TE.of ((h.ro ho).frY hY hF' hf) (Ow.frY h.o1 encL_length (fun b hb => ⟨zR, hF b hb, fun a _ e => ?_⟩) hF' hf) (Ow.frY h.o2 encC_length (fun b hb => ⟨zR, hF b hb, fun a _ e => ?_⟩) hF' hf)
  (Ow.frY h.o3 encR_length (fun b hb => ⟨zR, hF b hb, fun a _ e => ?_⟩) hF' hf) (Ow.frY h.o4 encB_length (fun b hb => ⟨zR, hF b hb, fun a ha e => ?_⟩) hF' hf) h.ne fun _ _ => Nat.zero_le _
 ·simp [encL, T43.cs] at e
 ·simp [encC, T43.cs] at e
 ·simp [encR, T43.cs] at e
 ·simp [encB, zR, T43.cs] at e
  exact h.ne a ha (ofL_inj.1 e)
structure TD (D : Nat -> Prop) (w : World) (x : T43) (t : Td) (Z : List Sl) : Prop where
 tw : TW w x t Z
 oz : Ow 1 encZ w x.f13 Z
 dv : ∀ b, D b -> (t.lots ≠ [] -> ¬ inB x.f1 b) /\ (t.crit ≠ [] -> ¬ inB x.f2 b) /\ (t.reqs ≠ [] -> ¬ inB x.f3 b) /\ (t.ties ≠ [] -> ¬ inB x.f11 b)
theorem TD.te {D : Nat -> Prop} (h : TD D w x t Z) : TE 0 w x t Z := ⟨h.tw, h.oz, fun _ _ => Nat.zero_le _⟩
theorem TD.tp {D : Nat -> Prop} (h : TD D w x t Z) : TP w x t := h.te.tp
theorem TD.fr {D : Nat -> Prop} (h : TD D w x t Z) (hf : Fr F0 w w') : TD D w' x t Z := ⟨h.tw.fr hf, h.oz.fr hf, h.dv⟩
theorem Ow.noZ {α : Type} {n b : Nat} {enc : α -> List Value} {s : Sl} {l : List α} (h : Ow n enc w s l) (hn : ∀ a, (enc a).length = n) (hc : ∀ a ∈ l, enc a ≠ zT.take n) (hr : Row w b zT) (hl : l ≠ []) : ¬ inB s b := by
 intro hb
 cases l with
 | nil => exact hl rfl
 | cons a l =>
  rcases h.own.2 with ⟨h1, _, _⟩ | ⟨b', cs, h1, h2, _, _, h5⟩
  ·obtain ⟨ad, ha, _⟩ := hb
   rw [h1] at ha
   cases ha
  ·obtain ⟨ad, ha, rfl⟩ := hb
   rw [h1] at ha
   cases ha
   have := h2.uniq hr
   subst this
   refine hc a (List.mem_cons_self ..) ?_
   have h6 := congrArg (List.take n) h5
   rw [List.take_take, Nat.min_eq_left (by rw [fm_length hn]; simp only [List.length_cons, Nat.add_mul]; omega)] at h6
   rw [h6, List.flatMap_cons, ← hn a, List.take_left]
theorem TW.dvZ (h : TW w x t Z) {b : Nat} (hr : Row w b zT) : (t.lots ≠ [] -> ¬ inB x.f1 b) /\ (t.crit ≠ [] -> ¬ inB x.f2 b) /\ (t.reqs ≠ [] -> ¬ inB x.f3 b) /\ (t.ties ≠ [] -> ¬ inB x.f11 b) := by
 refine ⟨Ow.noZ h.o1 encL_length (fun a _ e => ?_) hr, Ow.noZ h.o2 encC_length (fun a _ e => ?_) hr, Ow.noZ h.o3 encR_length (fun a _ e => ?_) hr, Ow.noZ h.o4 encB_length (fun a ha e => ?_) hr⟩
 ·simp [encL, zT, T43.cs] at e
 ·simp [encC, zT, T43.cs] at e
 ·simp [encR, zT, T43.cs] at e
 ·simp [encB, zT, T43.cs] at e
  exact h.ne a ha (ofL_inj.1 e)
theorem two_box {b1 b2 : Nat} {r1 r2 : T43} {t1 t2 : Td} {Z1 Z2 : List Sl} {S J : World -> Prop} (h1 : Row w b1 zT) (h2 : Row w b2 zT) (hne : b1 ≠ b2) (T1 : TW w r1 t1 Z1) (O1 : Ow 1 encZ w r1.f13 Z1) (T2 : TW w r2 t2 Z2) (O2 : Ow 1 encZ w r2.f13 Z2)
  (hS : ∀ u, Fr (fun c => c = b1) w u -> S u) (hJ : ∀ u, Fr (fun c => c = b1 \/ c = b2) w u -> Row u b1 r1.cs -> Row u b2 r2.cs -> TD (fun c => c = b1 \/ c = b2) u r1 t1 Z1 -> TD (fun c => c = b1 \/ c = b2) u r2 t2 Z2 -> J u) : stN w ⟨b1, 0, none⟩ r1.cs fun w18 => S w18 /\ stN w18 ⟨b2, 0, none⟩ r2.cs J := by
 refine stN_fr h1 rfl fun w18 f18 q1 => ⟨hS w18 f18, ?_⟩
 refine stN_fr (f18.row h2 fun e => hne e.symm) rfl fun w19 f19 q2 => ?_
 have f : Fr (fun c => c = b1 \/ c = b2) w w19 := (f18.mono fun _ h => .inl h).trans f19 fun _ h _ => .inr h
 have hF : ∀ b, b = b1 \/ b = b2 -> Row w b zT := by rintro b (rfl | rfl) <;> assumption
 have q1 := f19.row q1 hne
 have hF' : ∀ b, b = b1 \/ b = b2 -> ∃ y : T43, Row w19 b y.cs := by
  rintro b (rfl | rfl)
  ·exact ⟨_, q1⟩
  ·exact ⟨_, q2⟩
 have e1 := T1.frZ O1 hF hF' f
 have e2 := T2.frZ O2 hF hF' f
 exact hJ w19 f q1 q2 ⟨e1.tw, e1.oz, fun b hb => T1.dvZ (hF b hb)⟩ ⟨e2.tw, e2.oz, fun b hb => T2.dvZ (hF b hb)⟩
end
end Go.Proofs.YtfkmpbpkahcogaaGreatDoor
