/- combine.right: whether a problem is right. Conditions: none. -/
import Derived.Test.YtmkjcheafdionaaCD1
namespace Go.Proofs.Ytmkjcheafdionaa
open Go Pw

/-- Up to the map's own block a call has changed nothing. -/
theorem mset_fr {w0 w : World} {r : Nat} {k : IntKind} {n : Int} {v : Value} (hf : Fr F0 w0 w) (hr : w0.heap.size <= r) : Fr F0 w0 (w.mset r k n v) := by
  obtain ⟨h1, h2, h3, h4, h5⟩ := hf
  refine ⟨by simpa [World.mset] using h1, fun b hb hn => ?_, h3, h4, h5⟩
  rw [← h2 b hb hn]
  unfold World.mset
  simp only [Array.getElem?_modify]
  rw [if_neg (by omega)]

theorem mget_put {α : Type} (d : α) (n x : Int) (v : α) : ∀ l : List (Int × α), mgetD d x (mput n v l) = if x = n then v else mgetD d x l
  | [] => by
    simp only [mput, mgetD]
    by_cases h : n = x
    · rw [if_pos h, if_pos h.symm]
    · rw [if_neg h, if_neg (Ne.symm h)]
  | p :: l => by
    simp only [mput]
    by_cases hp : p.1 = n
    · rw [if_pos hp]
      simp only [mgetD, hp]
      by_cases h : n = x
      · rw [if_pos h, if_pos h.symm]
      · rw [if_neg h, if_neg (Ne.symm h), if_neg h]
    · rw [if_neg hp]
      simp only [mgetD]
      by_cases h : p.1 = x
      · rw [if_pos h, if_pos h, if_neg (by rw [← h]; exact hp)]
      · rw [if_neg h, if_neg h]
        exact mget_put d n x v l

/-- Is n from 0 to m? -/
def wiB (n m : Int) : Bool := decide (0 <= n) && decide (n <= m)
theorem wiB_iff {n m : Int} : wiB n m = true ↔ Wi n m := by simp [wiB, Wi]

def chB (p : Pr) (c : Ch) : Bool := decide (c.lot ∈ p.lots) && (wiB c.price 1000000000 && wiB c.pts 1000000)
def deB (p : Pr) (d : De) : Bool := decide (0 < d.lots.length) && (decide d.lots.Nodup && (d.lots.all (fun x => decide (x ∈ p.lots)) && wiB d.off 1000000000))
def rightB (p : Pr) : Bool :=
  decide (0 < p.lots.length) && (decide (p.lots.length <= 12) && (decide p.lots.Nodup && (decide (p.ch.length <= 480) && (decide (p.de.length <= 100) && (wiB p.most 1000000000 && (wiB p.budget 1000000000 && (p.ch.all (chB p) && p.de.all (deB p))))))))

theorem rightB_iff {p : Pr} : rightB p = true ↔ RightPr p := by
  unfold rightB
  simp only [Bool.and_eq_true, decide_eq_true_eq, wiB_iff, List.all_eq_true, chB, deB]
  constructor
  · rintro ⟨h1, h2, h3, h4, h5, h6, h7, h8, h9⟩
    exact ⟨h1, h2, h3, h4, h5, h6, h7, h8, fun d hd => ⟨fun h => by have := (h9 d hd).1; rw [h] at this; simp at this, (h9 d hd).2.1, (h9 d hd).2.2.1, (h9 d hd).2.2.2⟩⟩
  · intro h
    exact ⟨h.some, h.few, h.diff, h.chs, h.des, h.most, h.budget, h.ch, fun d hd => ⟨List.length_pos_iff.2 (h.de d hd).1, (h.de d hd).2.1, (h.de d hd).2.2.1, (h.de d hd).2.2.2⟩⟩

/-- A problem lies in memory. -/
structure PV (w : World) (s0 s1 s2 : Sl) (p : Pr) : Prop where
  lots : VI w s0 p.lots
  ch : VC w s1 p.ch
  de : ∃ dc : List (De × Sl), VD w s2 dc /\ dc.map (·.1) = p.de /\ ∀ x ∈ dc, VI w x.2 x.1.lots /\ x.1.lots.length < 2 ^ 40
  l0 : p.lots.length < 2 ^ 40
  l1 : p.ch.length < 2 ^ 40
  l2 : p.de.length < 2 ^ 40

theorem PV.fr {w w' : World} {s0 s1 s2 : Sl} {p : Pr} (h : PV w s0 s1 s2 p) (hf : Fr F0 w w') : PV w' s0 s1 s2 p := by
  obtain ⟨dc, h1, h2, h3⟩ := h.de
  exact ⟨h.lots.fr hf, h.ch.fr hf, ⟨dc, h1.fr hf, h2, fun x hx => ⟨(h3 x hx).1.fr hf, (h3 x hx).2⟩⟩, h.l0, h.l1, h.l2⟩

/-- The cells of a problem's variable. -/
def prC (s0 s1 s2 : Sl) (m b : Int) : List Value := [.slice s0.p s0.l s0.c, .slice s1.p s1.l s1.c, .slice s2.p s2.l s2.c, .int .i64 m, .int .i64 b]

section
variable {w w' w0 : World} {s s0 s1 s2 : Sl} {p : Pr}

theorem distinct_spec {l : List Int} {K : Bool -> World -> Prop} (hv : VI w s l) (hl : l.length < 2 ^ 62) (hK : ∀ w', Fr F0 w w' -> K (decide l.Nodup) w') : Cb_distinct_sh s K w := by
  refine ⟨?_⟩
  unfold Cb_distinct_sd
  intro w1
  have hf1 : Fr F0 w w1 := Fr.alloc
  have hm1 : Mp w1 w.heap.size .i64 [] := Mp.made w .i64
  clear_value w1
  have hlen := hv.len
  refine ⟨⟨fun i w' => ∃ (i' : Nat) (m : List (Int × Bool)), i = i' /\ i' <= l.length /\ (l.take i').Nodup /\ (∀ x, mgetD false x m = decide (x ∈ l.take i')) /\ Mp w' w.heap.size .i64 (m.map fun p => (p.1, .bool p.2)) /\ Fr F0 w w', fun i _ => l.length - i.toNat, ⟨0, [], rfl, by omega, by simp, fun x => by simp [mgetD], hm1, hf1⟩, ?_⟩⟩
  rintro i w2 ⟨i, m, rfl, hi, hnd, hget, hm, hf⟩
  unfold Cb_distinct_b0
  rw [cnd_prop]
  constructor
  · intro hlt
    have hlt : i < l.length := by omega
    refine VI.ld (hv.fr hf) i rfl hlt ?_
    have ht : l.take (i + 1) = l.take i ++ [l[i]] := take_succ' hlt
    refine ⟨m, hm, ?_⟩
    show cnd (mgetD false l[i] m) _ _
    rw [hget, cnd_prop]
    constructor
    · intro hin
      have : ¬ l.Nodup := fun hnd' => by
        have := (List.take_sublist (i + 1) l).nodup hnd'
        rw [ht, List.nodup_append] at this
        exact this.2.2 _ hin _ (by simp) rfl
      have := hK w2 hf
      rwa [decide_eq_false ‹¬ l.Nodup›] at this
    · intro hnin
      refine ⟨⟨_, hm⟩, ?_⟩
      intro w3
      have hf3 : Fr F0 w w3 := mset_fr hf (Nat.le_refl _)
      have hm3 := hm.set l[i] (.bool true)
      rw [mput_map Value.bool] at hm3
      refine ⟨inR64 (by omega) (by omega), ⟨⟨rfl, rfl, rfl, trivial⟩, i + 1, mput l[i] true m, by omega, by omega, ?_, fun x => ?_, hm3, hf3⟩, by dsimp only; omega⟩
      · rw [ht, List.nodup_append]
        refine ⟨hnd, by simp, fun a ha b hb => ?_⟩
        simp only [List.mem_singleton] at hb
        subst hb
        exact fun e => hnin (e ▸ ha)
      · rw [mget_put, hget]
        have hiff : x ∈ l.take (i + 1) ↔ x ∈ l.take i \/ x = l[i] := by
          rw [ht, List.mem_append, List.mem_singleton]
        by_cases h : x = l[i]
        · rw [if_pos h, decide_eq_true (hiff.2 (.inr h))]
        · rw [if_neg h]
          exact decide_eq_decide.2 ⟨fun hh => hiff.2 (.inl hh), fun hh => (hiff.1 hh).resolve_right h⟩
  · intro hge
    have : i = l.length := by omega
    subst this
    rw [List.take_length] at hnd
    have := hK w2 hf
    rwa [decide_eq_true hnd] at this

theorem within_spec {n m : Int} {K : Bool -> World -> Prop} (hK : K (wiB n m) w) : Cb_within_sh n m K w := by
  refine ⟨?_⟩
  unfold Cb_within_sd
  unfold wiB at hK
  rw [cnd_prop]
  constructor
  · intro h
    rwa [decide_eq_true (by omega : 0 <= n), Bool.true_and] at hK
  · intro h
    rwa [decide_eq_false (by omega : ¬ 0 <= n), Bool.false_and] at hK

/-- One condition after the other. -/
theorem cnd_and {a b : Bool} {K : Bool -> Prop} {X : Prop} (h : K (a && b)) (hX : a = true -> K b -> X) : cnd a X (K false) := by
  cases a
  · simpa using h
  · exact hX rfl (by simpa using h)

theorem known_fn {pb : Nat} {m b : Int} {l : List Int} (h : PV w s0 s1 s2 p) (hr : Row w pb (prC s0 s1 s2 m b)) {f : Value}
    (hf : ∀ id w1 (K : VW), Cb_right_1_sh id ⟨pb, 0, none⟩ (fun r w' => K (.bool r) w') w1 -> CallV Try.prog f [.int .i64 id] w1 K) : FnB f w argI l (fun n => decide (n ∈ p.lots)) := by
  intro id _ w1 hw1 K hK
  exact hf id w1 K ⟨⟨s0, (hw1.row hr fun h => h).at rfl, Contains_spec ((h.fr hw1).lots) (by have := h.l0; omega) (hK w1 Fr.refl)⟩⟩

theorem right_spec {K : Bool -> World -> Prop} (h : PV w s0 s1 s2 p) (hK : ∀ w', Fr F0 w w' -> K (rightB p) w') : Cb_right_sh s0 s1 s2 p.most p.budget K w := by
  refine ⟨?_⟩
  unfold Cb_right_sd
  have l0 := h.l0; have l1 := h.l1; have l2 := h.l2
  have e0 := h.lots.len; have e1 := h.ch.len
  obtain ⟨dc, hdv, hdm, hds⟩ := h.de
  have e2 := hdv.len
  have e3 : dc.length = p.de.length := by rw [← hdm, List.length_map]
  intro w1
  have m : Mem w w1 _ := Mem.nil.alloc
  clear_value w1
  intro w2
  have m : Mem w w2 _ := m.alloc
  clear_value w2
  refine ⟨m.wr 0 rfl rfl, ?_⟩
  intro w3
  have m : Mem w w3 _ := m.set 0 rfl
  clear_value w3
  simp only [List.set_cons_zero] at m
  have hkn : ∀ {w4 l}, Fr F0 w3 w4 -> FnB (fnv (idOf Cb_right_1_ok) [w.heap.size]) w4 argI l (fun n => decide (n ∈ p.lots)) := fun {w4 l} hw4 =>
    known_fn (m := p.most) (b := p.budget) (h.fr (m.1.t hw4)) ((m.fr hw4).2.1 _ (List.mem_cons_of_mem _ (List.mem_cons_self ..))) fun id w1 K hh => callV_of Cb_right_1_ok hh
  have hkr : ∀ {w4}, Fr F0 w3 w4 -> w4.cell? ⟨w1.heap.size, 0, none⟩ = some (fnv (idOf Cb_right_1_ok) [w.heap.size]) := fun {w4} hw4 => (m.fr hw4).ld 0 rfl rfl
  have hch : ∀ {w4}, Fr F0 w3 w4 -> FnB (fnv (idOf Cb_right_2_ok) [w1.heap.size]) w4 argC p.ch (chB p) := fun {w4} hw4 c hc w5 hw5 K5 hK5 => by
    refine callV_of Cb_right_2_ok ⟨?_⟩
    unfold Cb_right_2_sd
    intro w6
    have hf6 : Fr F0 w5 w6 := Fr.alloc
    have hm : Row w6 w5.heap.size (encC c) := Row.new
    clear_value w6
    refine ⟨_, hkr (hw4.t (hw5.t hf6)), _, hm.at rfl, hkn (l := [c.lot]) (hw4.t (hw5.t hf6)) c.lot (by simp) w6 Fr.refl _ fun w7 hf7 => ⟨_, rfl, ?_⟩⟩
    have hK6 : K5 (.bool (chB p c)) w7 := hK5 w7 (hf6.t hf7)
    refine cnd_and (K := fun b => K5 (.bool b) w7) hK6 fun _ hK7 => ?_
    have hm7 := hf7.row hm fun h => h
    refine ⟨_, hm7.at rfl, within_spec ?_⟩
    refine cnd_and (K := fun b => K5 (.bool b) w7) hK7 fun _ hK8 => ?_
    exact ⟨_, hm7.at rfl, within_spec hK8⟩
  have hde : ∀ {w4}, Fr F0 w3 w4 -> FnB (fnv (idOf Cb_right_3_ok) [w1.heap.size]) w4 argD dc (fun x => deB p x.1) := fun {w4} hw4 d hd w5 hw5 K5 hK5 => by
    refine callV_of Cb_right_3_ok ⟨?_⟩
    unfold Cb_right_3_sd
    obtain ⟨hdl, hd40⟩ := hds d hd
    have hf5 := m.1.t (hw4.t hw5)
    intro w6
    have hf6 : Fr F0 w5 w6 := Fr.alloc
    have hm : Row w6 w5.heap.size (encD d) := Row.new
    clear_value w6
    have hdl6 := hdl.fr (hf5.t hf6)
    have e4 := hdl.len
    have hK6 : K5 (.bool (deB p d.1)) w6 := hK5 w6 hf6
    have e5 : decide ((d.2.l : Int) > 0) = decide (0 < d.1.lots.length) := decide_eq_decide.2 (by omega)
    refine ⟨d.2, hm.at rfl, ?_⟩
    rw [e5]
    refine cnd_and (K := fun b => K5 (.bool b) w6) hK6 fun h1 _ => ?_
    refine ⟨d.2, hm.at rfl, distinct_spec hdl6 (by omega) fun w7 hf7 => ?_⟩
    have hm7 := hf7.row hm fun h => h
    have hK7 : K5 (.bool (deB p d.1)) w7 := hK5 w7 (hf6.t hf7)
    unfold deB at hK7
    rw [h1, Bool.true_and] at hK7
    refine cnd_and (K := fun b => K5 (.bool b) w7) hK7 fun h2 _ => ?_
    refine ⟨d.2, hm7.at rfl, _, hkr (hw4.t (hw5.t (hf6.t hf7))), all_spec (hdl6.fr hf7) (by omega) rfl (hkn (hw4.t (hw5.t (hf6.t hf7)))) fun w8 hf8 => ?_⟩
    have hK8 : K5 (.bool (deB p d.1)) w8 := hK5 w8 (hf6.t (hf7.t hf8))
    unfold deB at hK8
    rw [h1, h2, Bool.true_and, Bool.true_and] at hK8
    refine cnd_and (K := fun b => K5 (.bool b) w8) hK8 fun _ hK9 => ?_
    exact ⟨_, (hf8.row hm7 fun h => h).at rfl, within_spec hK9⟩
  have hK3 : K (rightB p) w3 := hK w3 m.1
  refine ⟨s0, m.ld 1 rfl rfl, ?_⟩
  rw [show decide ((s0.l : Int) > 0) = decide (0 < p.lots.length) from decide_eq_decide.2 (by omega)]
  unfold rightB at hK3
  refine cnd_and (K := fun b => K b w3) hK3 fun h1 hK3 => ?_
  refine ⟨s0, m.ld 1 rfl rfl, ?_⟩
  rw [show decide ((s0.l : Int) <= 12) = decide (p.lots.length <= 12) from decide_eq_decide.2 (by omega)]
  refine cnd_and (K := fun b => K b w3) hK3 fun h2 _ => ?_
  refine ⟨s0, m.ld 1 rfl rfl, distinct_spec ((h.fr m.1).lots) (by omega) fun w4 hf4 => ?_⟩
  have m4 := m.fr hf4
  have hK4 : K (rightB p) w4 := hK w4 m4.1
  unfold rightB at hK4
  rw [h1, h2, Bool.true_and, Bool.true_and] at hK4
  refine cnd_and (K := fun b => K b w4) hK4 fun h3 hK4 => ?_
  refine ⟨s1, m4.ld 1 rfl rfl, ?_⟩
  rw [show decide ((s1.l : Int) <= 480) = decide (p.ch.length <= 480) from decide_eq_decide.2 (by omega)]
  refine cnd_and (K := fun b => K b w4) hK4 fun h4 hK4 => ?_
  refine ⟨s2, m4.ld 1 rfl rfl, ?_⟩
  rw [show decide ((s2.l : Int) <= 100) = decide (p.de.length <= 100) from decide_eq_decide.2 (by omega)]
  refine cnd_and (K := fun b => K b w4) hK4 fun h5 hK4 => ?_
  refine ⟨_, m4.ld 1 rfl rfl, within_spec ?_⟩
  refine cnd_and (K := fun b => K b w4) hK4 fun h6 hK4 => ?_
  refine ⟨_, m4.ld 1 rfl rfl, within_spec ?_⟩
  refine cnd_and (K := fun b => K b w4) hK4 fun h7 hK4 => ?_
  refine ⟨s1, m4.ld 1 rfl rfl, allC_spec ((h.fr m4.1).ch) (by omega) rfl (hch hf4) fun w5 hf5 => ?_⟩
  have m5 := m4.fr hf5
  have hK5 : K (rightB p) w5 := hK w5 m5.1
  unfold rightB at hK5
  rw [h1, h2, h3, h4, h5, h6, h7] at hK5
  simp only [Bool.true_and] at hK5
  refine cnd_and (K := fun b => K b w5) hK5 fun h8 _ => ?_
  refine ⟨s2, m5.ld 1 rfl rfl, allD_spec (hdv.fr m5.1) (by omega) rfl (hde (hf4.t hf5)) fun w6 hf6 => ?_⟩
  have hK6 : K (rightB p) w6 := hK w6 (m5.fr hf6).1
  unfold rightB at hK6
  rw [h1, h2, h3, h4, h5, h6, h7, h8] at hK6
  simp only [Bool.true_and] at hK6
  have e9 : p.de.all (deB p) = dc.all fun x => deB p x.1 := by rw [← hdm, List.all_map]; rfl
  rw [e9] at hK6
  exact hK6
end
end Go.Proofs.Ytmkjcheafdionaa
