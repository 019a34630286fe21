/- combine: decisions, what they take, what can be saved. Conditions: none. -/
import Derived.Test.YtmkjcheafdionaaCD2
import Derived.Test.YtmkjcheafdionaaCB
namespace Go.Proofs.Ytmkjcheafdionaa
open Go Pw

/-- A prefix lies in memory. -/
structure PF (w : World) (s0 s1 s2 s5 : Sl) (p : Pr) (f : List Int) : Prop where
  pv : PV w s0 s1 s2 p
  tk : VI w s5 f
  lt : f.length < 2 ^ 40

theorem PF.fr {w w' : World} {s0 s1 s2 s5 : Sl} {p : Pr} {f : List Int} (h : PF w s0 s1 s2 s5 p f) (hf : Fr F0 w w') : PF w' s0 s1 s2 s5 p f := ⟨h.pv.fr hf, h.tk.fr hf, h.lt⟩

def pfC (s0 s1 s2 : Sl) (m b : Int) (s5 : Sl) : List Value := [.slice s0.p s0.l s0.c, .slice s1.p s1.l s1.c, .slice s2.p s2.l s2.c, .int .i64 m, .int .i64 b, .slice s5.p s5.l s5.c]

section
variable {w w' w0 : World} {s s0 s1 s2 s5 : Sl} {p : Pr} {f : List Int}

/-- A struct of three cells, copied cell by cell into a new variable. -/
theorem cpy3 {z0 z1 z2 v0 v1 v2 : Value} {e : TypeId} {K : World -> Prop} (hK : ∀ w', Fr F0 w w' -> Row w' w.heap.size [v0, v1, v2] -> K w') :
    (let w1 : World := w.alloc (Obj.cells #[z0, z1, z2] e)
    wrOk w1 (Addr.mk w.heap.size 0 none) /\
    (let w2 : World := w1.setCell (Addr.mk w.heap.size 0 none) v0
    wrOk w2 (Addr.mk w.heap.size 1 none) /\
    (let w3 : World := w2.setCell (Addr.mk w.heap.size 1 none) v1
    wrOk w3 (Addr.mk w.heap.size 2 none) /\
    (let w4 : World := w3.setCell (Addr.mk w.heap.size 2 none) v2
    K w4)))) := by
  intro w1
  have m : Mem w w1 [(w.heap.size, [z0, z1, z2])] := Mem.nil.alloc
  clear_value w1
  refine ⟨m.wr 0 rfl rfl, ?_⟩
  intro w2
  have m : Mem w w2 [(w.heap.size, [v0, z1, z2])] := m.set 0 rfl
  clear_value w2
  refine ⟨m.wr 0 rfl rfl, ?_⟩
  intro w3
  have m : Mem w w3 [(w.heap.size, [v0, v1, z2])] := m.set 0 rfl
  clear_value w3
  refine ⟨m.wr 0 rfl rfl, ?_⟩
  intro w4
  have m : Mem w w4 [(w.heap.size, [v0, v1, v2])] := m.set 0 rfl
  clear_value w4
  exact hK w4 m.1 (m.2.1 _ (List.mem_singleton.2 rfl))

theorem cpy4 {z0 z1 z2 z3 v0 v1 v2 v3 : Value} {e : TypeId} {K : World -> Prop} (hK : ∀ w', Fr F0 w w' -> Row w' w.heap.size [v0, v1, v2, v3] -> K w') :
    (let w1 : World := w.alloc (Obj.cells #[z0, z1, z2, z3] e)
    wrOk w1 (Addr.mk w.heap.size 0 none) /\
    (let w2 : World := w1.setCell (Addr.mk w.heap.size 0 none) v0
    wrOk w2 (Addr.mk w.heap.size 1 none) /\
    (let w3 : World := w2.setCell (Addr.mk w.heap.size 1 none) v1
    wrOk w3 (Addr.mk w.heap.size 2 none) /\
    (let w4 : World := w3.setCell (Addr.mk w.heap.size 2 none) v2
    wrOk w4 (Addr.mk w.heap.size 3 none) /\
    (let w5 : World := w4.setCell (Addr.mk w.heap.size 3 none) v3
    K w5))))) := by
  intro w1
  have m : Mem w w1 [(w.heap.size, [z0, z1, z2, z3])] := Mem.nil.alloc
  clear_value w1
  refine ⟨m.wr 0 rfl rfl, ?_⟩
  intro w2
  have m : Mem w w2 [(w.heap.size, [v0, z1, z2, z3])] := m.set 0 rfl
  clear_value w2
  refine ⟨m.wr 0 rfl rfl, ?_⟩
  intro w3
  have m : Mem w w3 [(w.heap.size, [v0, v1, z2, z3])] := m.set 0 rfl
  clear_value w3
  refine ⟨m.wr 0 rfl rfl, ?_⟩
  intro w4
  have m : Mem w w4 [(w.heap.size, [v0, v1, v2, z3])] := m.set 0 rfl
  clear_value w4
  refine ⟨m.wr 0 rfl rfl, ?_⟩
  intro w5
  have m : Mem w w5 [(w.heap.size, [v0, v1, v2, v3])] := m.set 0 rfl
  clear_value w5
  exact hK w5 m.1 (m.2.1 _ (List.mem_singleton.2 rfl))

theorem chAt_some {n : Int} {c : Ch} (h : chAt p n = some c) : 0 <= n /\ ∃ h : n.toNat < p.ch.length, p.ch[n.toNat] = c := by
  unfold chAt at h
  split at h
  · rename_i h0
    obtain ⟨h1, h2⟩ := List.getElem?_eq_some_iff.1 h
    exact ⟨h0, h1, h2⟩
  · cases h

theorem chAt_get {n : Int} (h0 : 0 <= n) (h : n.toNat < p.ch.length) : chAt p n = some p.ch[n.toNat] := by
  unfold chAt
  rw [if_pos h0, List.getElem?_eq_getElem h]

theorem chAt_neg {n : Int} (h0 : ¬ 0 <= n) : chAt p n = none := by unfold chAt; rw [if_neg h0]
theorem chAt_out {n : Int} (h : p.ch.length <= n.toNat) : chAt p n = none := by
  unfold chAt
  split
  · exact List.getElem?_eq_none h
  · rfl

theorem decs_at {i : Nat} (hd : Decs p p.lots f) (hi : i < f.length) : ∃ h : i < p.lots.length, Dec p p.lots[i] f[i] := by
  have hl := decs_len hd
  refine ⟨by omega, (decs_get hl).1 hd i _ _ (List.getElem?_eq_getElem (by omega)) (List.getElem?_eq_getElem hi)⟩

theorem decs_take_succ {i : Nat} (hl : f.length <= p.lots.length) (hi : i < f.length) (h : ∀ j lot n, j < i -> p.lots[j]? = some lot -> f[j]? = some n -> Dec p lot n) (hn : Dec p (p.lots[i]'(by omega)) f[i]) :
    ∀ j lot n, j < i + 1 -> p.lots[j]? = some lot -> f[j]? = some n -> Dec p lot n := by
  intro j lot n hj h1 h2
  rcases Nat.lt_or_ge j i with hlt | hge
  · exact h j lot n hlt h1 h2
  · have : j = i := by omega
    subst this
    rw [List.getElem?_eq_getElem (by omega)] at h1
    rw [List.getElem?_eq_getElem hi] at h2
    injection h1 with h1
    injection h2 with h2
    rw [← h1, ← h2]
    exact hn

theorem fits_spec {K : Bool -> World -> Prop} (h : PF w s0 s1 s2 s5 p f) (hK : ∀ w', Fr F0 w w' -> K (fitsB p f) w') : Cp_fits_sh s0 s1 s2 p.most p.budget s5 K w := by
  refine ⟨?_⟩
  unfold Cp_fits_sd
  have l0 := h.pv.l0; have l1 := h.pv.l1; have l5 := h.lt
  have e0 := h.pv.lots.len; have e1 := h.pv.ch.len; have e5 := h.tk.len
  intro w1
  have hf1 : Fr F0 w w1 := Fr.alloc
  have hr : Row w1 w.heap.size (pfC s0 s1 s2 p.most p.budget s5) := Row.new
  clear_value w1
  refine ⟨s5, hr.at rfl, s0, hr.at rfl, ?_⟩
  rw [cnd_bne]
  refine ⟨fun hne => ?_, fun heq => ?_⟩
  · have := hK w1 hf1
    unfold fitsB at this
    rwa [decide_eq_false (by omega : ¬ f.length = p.lots.length), Bool.false_and] at this
  have hlen : f.length = p.lots.length := by omega
  have hKt : ∀ w', Fr F0 w w' -> K (decsB p p.lots f) w' := fun w' hf => by
    have := hK w' hf
    unfold fitsB at this
    rwa [decide_eq_true hlen, Bool.true_and] at this
  have hbad : ∀ {i : Nat} (hi : i < f.length), ¬ Dec p (p.lots[i]'(by omega)) f[i] -> ∀ w', Fr F0 w w' -> K false w' := fun {i} hi hnd w' hf => by
    have := hKt w' hf
    rwa [show decsB p p.lots f = false from Bool.eq_false_iff.2 fun hb => hnd ((decs_at (decsB_iff.1 hb) hi).2)] at this
  refine ⟨s5, hr.at rfl, ⟨⟨fun i w' => ∃ i' : Nat, i = i' /\ i' <= f.length /\ (∀ j lot n, j < i' -> p.lots[j]? = some lot -> f[j]? = some n -> Dec p lot n) /\ Fr F0 w1 w', fun i _ => f.length - i.toNat, ⟨0, rfl, by omega, fun j lot n hj => by omega, Fr.refl⟩, ?_⟩⟩⟩
  rintro i w2 ⟨i, rfl, hi, hall, hf2⟩
  unfold Cp_fits_b0
  rw [cnd_prop]
  refine ⟨fun hlt => ?_, fun hge => ?_⟩
  · have hlt : i < f.length := by omega
    have hltl : i < p.lots.length := by omega
    refine VI.ld (h.tk.fr (hf1.t hf2)) i rfl hlt ?_
    intro w3
    have hf3 : Fr F0 w1 w3 := hf2.t Fr.drew
    clear_value w3
    have hr3 := hf3.row hr fun h => h
    have h3 := h.fr (hf1.t hf3)
    have hb := hbad hlt
    rw [cnd_prop]
    refine ⟨fun hc => hb (fun hd => ?_) w3 (hf1.t hf3), fun hc => ?_⟩
    · rcases hd with hd | ⟨c, hd, _⟩
      · omega
      · have := (chAt_some hd).1; omega
    refine ⟨s1, hr3.at rfl, ?_⟩
    rw [cnd_prop]
    refine ⟨fun hc => hb (fun hd => ?_) w3 (hf1.t hf3), fun hc2 => ?_⟩
    · rcases hd with hd | ⟨c, hd, _⟩
      · omega
      · obtain ⟨_, hx, _⟩ := chAt_some hd; omega
    have hnext : ∀ (hd : Dec p p.lots[i] f[i]), inR .i64 ((i : Int) + 1) /\ ((((⟨w.heap.size, 0, none⟩ : Addr) = ⟨w.heap.size, 0, none⟩ /\ s5 = s5 /\ (s5.l : Int) = s5.l /\ True) /\ ∃ i' : Nat, (i : Int) + 1 = i' /\ i' <= f.length /\ (∀ j lot n, j < i' -> p.lots[j]? = some lot -> f[j]? = some n -> Dec p lot n) /\ Fr F0 w1 w3) /\ f.length - ((i : Int) + 1).toNat < f.length - (i : Int).toNat) := fun hd =>
      ⟨inR64 (by omega) (by omega), ⟨⟨rfl, rfl, rfl, trivial⟩, i + 1, by omega, by omega, decs_take_succ (by omega) hlt hall hd, hf3⟩, by omega⟩
    rw [cnd_prop]
    refine ⟨fun hpos => ?_, fun hneg => hnext (.inl (by omega))⟩
    have hix : f[i].toNat < p.ch.length := by omega
    refine ⟨s1, hr3.at rfl, ?_⟩
    refine VC.ld h3.pv.ch f[i].toNat (by omega) hix fun a hc => ?_
    refine ⟨_, (hc w3 Fr.refl).1, s0, hr3.at rfl, ?_⟩
    refine VI.ld h3.pv.lots i rfl hltl ?_
    rw [cnd_bne]
    refine ⟨fun hne => hb (fun hd => ?_) w3 (hf1.t hf3), fun he => hnext (.inr ⟨_, chAt_get (by omega) hix, he⟩)⟩
    rcases hd with hd | ⟨c, hd, hl⟩
    · omega
    · obtain ⟨_, _, hx⟩ := chAt_some hd
      rw [← hx] at hl
      exact hne hl
  · have : i = f.length := by omega
    subst this
    have := hKt w2 (hf1.t hf2)
    rwa [decsB_iff.2 ((decs_get (by omega)).2 fun j lot n h1 h2 => hall j lot n (List.getElem?_eq_some_iff.1 h2).1 h1 h2)] at this

theorem encC_ok (c : Ch) : ∀ v ∈ encC c, okC v = true := by intro v hv; simp [encC] at hv; rcases hv with rfl | rfl | rfl | rfl <;> rfl

theorem took_succ {i : Nat} (hi : i < f.length) : took p (f.take (i + 1)) = took p (f.take i) ++ (match chAt p f[i] with | some c => [c] | none => []) := by
  rw [take_succ' hi, took_append]
  congr 1
  unfold took
  rw [List.filterMap_cons]
  cases chAt p f[i] <;> rfl

theorem Mk.vi {α : Type} {n : Nat} {enc : α -> List Value} {l : List α} (h : Mk w0 n enc w s l) (hf : Fr F0 w w') : Mk w0 n enc w' s l := h.fr hf

theorem taken_spec {K : Sl -> World -> Prop} (h : PF w s0 s1 s2 s5 p f) (hd : Decs p p.lots f) (hK : ∀ s' w', Mk w 4 encC w' s' (took p f) -> K s' w') : Cp_taken_sh s0 s1 s2 p.most p.budget s5 K w := by
  refine ⟨?_⟩
  unfold Cp_taken_sd
  have l1 := h.pv.l1; have l5 := h.lt
  have e1 := h.pv.ch.len; have e5 := h.tk.len
  intro w1
  have hf1 : Fr F0 w w1 := Fr.alloc
  have hr : Row w1 w.heap.size (pfC s0 s1 s2 p.most p.budget s5) := Row.new
  clear_value w1
  refine ⟨s5, hr.at rfl, ⟨⟨fun out i w' => ∃ i' : Nat, i = i' /\ i' <= f.length /\ Mk w1 4 encC w' out (took p (f.take i')), fun _ i _ => f.length - i.toNat, ⟨0, rfl, by omega, Mk.nil Fr.refl⟩, ?_⟩⟩⟩
  rintro out i w2 ⟨i, rfl, hi, hm⟩
  unfold Cp_taken_b0
  have hf2 := hm.fr0
  rw [cnd_prop]
  refine ⟨fun hlt => ?_, fun hge => ?_⟩
  · have hlt : i < f.length := by omega
    have hts := took_succ (p := p) hlt
    refine VI.ld (h.tk.fr (hf1.t hf2)) i rfl hlt ?_
    rw [cnd_prop]
    refine ⟨fun hpos => ?_, fun hneg => ⟨inR64 (by omega) (by omega), ⟨⟨rfl, rfl, rfl, trivial⟩, i + 1, by omega, by omega, ?_⟩, by dsimp only; omega⟩⟩
    · obtain ⟨_, hdi⟩ := decs_at hd hlt
      rcases hdi with hdi | ⟨c, hdi, _⟩
      · omega
      obtain ⟨_, hix, hcx⟩ := chAt_some hdi
      rw [hdi] at hts
      refine ⟨s1, (hf2.row hr fun h => h).at rfl, ?_⟩
      refine VC.ld (h.pv.fr (hf1.t hf2)).ch f[i].toNat (by omega) hix fun a hc => ?_
      obtain ⟨c0, c1, c2, c3⟩ := hc w2 Fr.refl
      refine ⟨_, c0, _, c1, _, c2, _, c3, ?_⟩
      rw [hcx]
      have hlen := took_len (p := p) (f.take i)
      rw [List.length_take] at hlen
      refine Mk.push hm (a := c) rfl rfl encC_ok rfl (by omega) (by omega) fun r w3 hm3 _ => ?_
      refine ⟨inR64 (by omega) (by omega), ⟨⟨rfl, rfl, rfl, trivial⟩, i + 1, by omega, by omega, ?_⟩, by dsimp only; omega⟩
      rw [hts]
      exact hm3
    · rw [hts, chAt_neg (by omega), List.append_nil]
      exact hm
  · have : i = f.length := by omega
    subst this
    rw [List.take_length] at hm
    exact hK out w2 ⟨hf1.t hf2, hm.ow, fun b hb => Nat.le_trans hf1.1 (hm.nw b hb)⟩
end
end Go.Proofs.Ytmkjcheafdionaa
