/- combine: multipliers, the least bound, what may follow. Conditions: none. -/
import Derived.Test.YtmkjcheafdionaaCG3
import Derived.Test.YtmkjcheafdionaaCD7
namespace Go.Proofs.Ytmkjcheafdionaa
open Go Pw

/-- A multiplier's cells. -/
def encR (x : Int × Int) : List Value := [.int .i64 x.1, .int .i64 x.2]
@[simp] theorem encR_length (x : Int × Int) : (encR x).length = 2 := rfl
theorem encR_ok (x : Int × Int) : ∀ v ∈ encR x, okC v = true := by intro v hv; simp [encR] at hv; rcases hv with rfl | rfl <;> rfl
abbrev VR (w : World) (s : Sl) (l : List (Int × Int)) : Prop := Vw 2 encR w s l

/-- A multiplier that is permitted. -/
def Mul0 (x : Int × Int) : Prop := rightP x.1 x.2 /\ I64 x.1 /\ I64 x.2 /\ 0 <= x.1

/-- The cells of a search. -/
def schC (t : Sl) (pts bnd : Int) (ns s0 s1 s2 : Sl) (m b left : Int) : List Value :=
  [.slice t.p t.l t.c, .int .i64 pts, .int .i64 bnd, .slice ns.p ns.l ns.c, .slice s0.p s0.l s0.c, .slice s1.p s1.l s1.c, .slice s2.p s2.l s2.c, .int .i64 m, .int .i64 b, .int .i64 left]

section
variable {w w' w0 : World} {s s0 s1 s2 s5 t ns : Sl} {p : Pr} {f : List Int} {sb : Nat}

theorem VR.ld {l : List (Int × Int)} {i : Int} {K : Addr -> Prop} (h : VR w s l) (i' : Nat) (hi : i = (i' : Int)) (h1 : i' < l.length)
    (hK : ∀ a : Addr, (∀ w', Fr F0 w w' -> w'.cell? (a.add (i.toNat * 2)) = some (.int .i64 l[i'].1) /\ w'.cell? ((a.add (i.toNat * 2)).add 1) = some (.int .i64 l[i'].2)) -> K a) :
    nz s.p fun a => (0 <= i /\ i < (s.l : Nat)) /\ K a := by
  subst hi
  have hl := h.len
  obtain ⟨ad, hp, _⟩ := h.at (fun a => encR_length a) (List.getElem?_eq_getElem h1) (by decide)
  rw [hp]
  refine ⟨⟨by omega, by omega⟩, hK _ fun w' hf => ?_⟩
  obtain ⟨ad', hp', hc⟩ := (h.fr hf).at (fun a => encR_length a) (List.getElem?_eq_getElem h1) (by decide)
  rw [hp] at hp'
  cases hp'
  exact ⟨hc 0 _ rfl, hc 1 _ rfl⟩

theorem duals_spec {K : Sl -> World -> Prop} (hp : RightPr p) (h : PF w s0 s1 s2 s5 p f) (hK : ∀ s' w' l, Mk w 2 encR w' s' l -> l.length < 2 ^ 41 -> (∀ x ∈ l, Mul0 x) -> K s' w') : Cp_duals_sh s0 s1 s2 p.most p.budget s5 K w := by
  refine ⟨?_⟩
  unfold Cp_duals_sd
  have l0 := h.pv.l0; have l1 := h.pv.l1; have l5 := h.lt
  have e1 := h.pv.ch.len
  intro w1
  have m1 : Mem w w1 [(w.heap.size, pfC s0 s1 s2 p.most p.budget s5)] := Mem.nil.alloc
  clear_value w1
  refine Of_spec fun w2 hf2 => ?_
  have m2 := m1.fr hf2
  intro w4
  have hmk : Mk w1 2 encR w4 ⟨some ⟨w2.heap.size, 0, none⟩, 1, 1⟩ [((0, 1) : Int × Int)] := Mk.new hf2 rfl rfl
  have hf4 : Fr F0 w2 w4 := Fr.alloc
  clear_value w4
  have m4 := m2.fr hf4
  refine ⟨s1, m4.ld 0 rfl rfl, ⟨⟨fun out i w' => ∃ (i' : Nat) (l : List (Int × Int)), i = i' /\ i' <= p.ch.length /\ Mk w1 2 encR w' out l /\ l.length <= i' + 1 /\ (∀ x ∈ l, Mul0 x), fun _ i _ => p.ch.length - i.toNat,
    ⟨0, _, rfl, by omega, hmk, by simp, fun x hx => by simp at hx; subst hx; exact ⟨rI 0, ⟨by decide, by decide⟩, ⟨by decide, by decide⟩, by decide⟩⟩, ?_⟩⟩⟩
  rintro out i w2 ⟨i, l, rfl, hi, hm, hll, hgood⟩
  unfold Cp_duals_b0
  have hr2 : Row w2 w.heap.size (pfC s0 s1 s2 p.most p.budget s5) := hm.fr0.row (m1.row 0 rfl) fun h => h
  have h2 : PF w2 s0 s1 s2 s5 p f := h.fr (m1.1.t hm.fr0)
  rw [cnd_prop]
  refine ⟨fun hlt => ?_, fun hge => hK out w2 l ⟨m1.1.t hm.fr0, hm.ow, fun b hb => Nat.le_trans m1.1.1 (hm.nw b hb)⟩ (by omega) hgood⟩
  have hlt : i < p.ch.length := by omega
  have hcm := List.getElem_mem hlt
  refine VC.ld h2.pv.ch i rfl hlt fun a hc => ?_
  obtain ⟨c0, c1, c2, c3⟩ := hc w2 Fr.refl
  refine ⟨_, c0, _, c1, _, c2, _, c3, ?_⟩
  refine stN_new rfl Mem.nil fun w12 m => ?_
  have m : Mem w2 w12 [(w2.heap.size, encC p.ch[i])] := m
  have hnext : ∀ {w' : World} {out' : Sl} {l' : List (Int × Int)}, Mk w1 2 encR w' out' l' -> l'.length <= i + 2 -> (∀ x ∈ l', Mul0 x) -> inR .i64 ((i : Int) + 1) /\ ((((⟨w.heap.size, 0, none⟩ : Addr) = ⟨w.heap.size, 0, none⟩ /\ s1 = s1 /\ (s1.l : Int) = s1.l /\ True) /\ ∃ (i' : Nat) (l : List (Int × Int)), (i : Int) + 1 = i' /\ i' <= p.ch.length /\ Mk w1 2 encR w' out' l /\ l.length <= i' + 1 /\ ∀ x ∈ l, Mul0 x) /\ p.ch.length - ((i : Int) + 1).toNat < p.ch.length - (i : Int).toNat) :=
    fun {w' out' l'} hm' hl' hg' => ⟨inR64 (by omega) (by omega), ⟨⟨rfl, rfl, rfl, trivial⟩, i + 1, l', by omega, by omega, hm', by omega, hg'⟩, by omega⟩
  refine ⟨_, (m.1.row hr2 fun h => h).at rfl, _, m.ld 0 rfl rfl, Index_spec (h2.fr m.1).pv.lots (by omega) ?_⟩
  refine ⟨_, (m.1.row hr2 fun h => h).at rfl, ?_⟩
  rw [cnd_prop]
  refine ⟨fun hx1 => ?_, fun hx1 => hnext (hm.fr m.1) (by omega) hgood⟩
  refine ⟨_, m.ld 0 rfl rfl, ?_⟩
  rw [cnd_prop]
  refine ⟨fun hx2 => ?_, fun hx2 => hnext (hm.fr m.1) (by omega) hgood⟩
  have hb := net_bound hp hcm
  have hprW := (hp.ch _ hcm).2.1
  have hbu := hp.budget
  have hnet : I64 (p.ch[i].pts * (p.budget + 1) - p.ch[i].price) := by have := hprW.1; have := hprW.2; exact ⟨by omega, by omega⟩
  have hpr : I64 p.ch[i].price := by have := hprW.1; have := hprW.2; exact ⟨by omega, by omega⟩
  obtain ⟨q1, q2, q3⟩ := makeQ_right (p.ch[i].pts * (p.budget + 1) - p.ch[i].price) p.ch[i].price
  have hk1 : ∀ {w' : World} {db : Nat} {ml : List (Nat × List Value)}, Mem w2 w' ((db, [.int .i64 (makeQ (p.ch[i].pts * (p.budget + 1) - p.ch[i].price) p.ch[i].price).n, .int .i64 (makeQ (p.ch[i].pts * (p.budget + 1) - p.ch[i].price) p.ch[i].price).d]) :: ml) ->
      Cp_duals_k1 ⟨w.heap.size, 0, none⟩ out ⟨db, 0, none⟩ (makeQ (p.ch[i].pts * (p.budget + 1) - p.ch[i].price) p.ch[i].price).ok s1 (s1.l : Int) i (fun (f_1' : Addr) (out_3' : Sl) (t_13' : Sl) (t_14' : Int) (t_15' : Int) (w' : World) => ((f_1' = ⟨w.heap.size, 0, none⟩ /\ t_13' = s1 /\ t_14' = (s1.l : Int) /\ True) /\ ∃ (i' : Nat) (l : List (Int × Int)), t_15' = i' /\ i' <= p.ch.length /\ Mk w1 2 encR w' out_3' l /\ l.length <= i' + 1 /\ ∀ x ∈ l, Mul0 x) /\ p.ch.length - t_15'.toNat < p.ch.length - (i : Int).toNat) K w' := by
    intro w' db ml m
    refine ⟨?_⟩
    unfold Cp_duals_k1d
    rw [cnd_iff]
    refine ⟨fun _ => ?_, fun _ => hnext (hm.fr m.1) (by omega) hgood⟩
    refine ⟨_, m.ld 0 rfl rfl, ?_⟩
    rw [cnd_prop]
    refine ⟨fun hpos => ?_, fun _ => hnext (hm.fr m.1) (by omega) hgood⟩
    refine ⟨_, m.ld 0 rfl rfl, _, m.ld 0 rfl rfl, ?_⟩
    refine Mk.push (hm.fr m.1) (a := ((makeQ (p.ch[i].pts * (p.budget + 1) - p.ch[i].price) p.ch[i].price).n, (makeQ (p.ch[i].pts * (p.budget + 1) - p.ch[i].price) p.ch[i].price).d)) rfl rfl encR_ok rfl (by omega) (by omega) fun r w5 hm5 _ => ?_
    refine hnext hm5 (by simp; omega) fun x hx => ?_
    rcases List.mem_append.1 hx with hx | hx
    · exact hgood x hx
    · rw [List.mem_singleton] at hx
      subst hx
      exact ⟨q1, q2, q3, by have : (0 : Int) < _ := hpos; exact Int.le_of_lt this⟩
  intro w19; have m : Mem w2 w19 _ := m.drew; clear_value w19
  refine ⟨fun u => Rs u _ /\ Row u _ _, ⟨m.sub 0 rfl, m.1.row hr2 fun h => h⟩, ?_⟩
  refine ⟨_, fun _ h => h.2.at rfl, ?_⟩
  refine ⟨_, fun _ h => h.2.at rfl, ?_⟩
  refine ⟨_, fun _ h => h.2.at rfl, ?_⟩
  refine ⟨_, fun _ h => h.2.at rfl, ?_⟩
  refine ⟨_, fun _ h => h.2.at rfl, ?_⟩
  refine ⟨_, fun _ h => h.2.at rfl, ?_⟩
  refine ⟨_, fun _ h => h.1.ld 0 rfl rfl, ?_⟩
  refine ⟨_, fun _ h => h.1.ld 0 rfl rfl, ?_⟩
  refine ⟨_, fun _ h => h.1.ld 0 rfl rfl, ?_⟩
  refine ⟨_, fun _ h => h.1.ld 0 rfl rfl, ?_⟩
  refine ⟨_, fun _ h => h.1.ld 0 rfl rfl, ?_⟩
  refine ⟨?_, ?_⟩
  · refine net_spec hp hcm fun w32 hf => ?_; have m := m.fr hf
    refine ⟨⟨m.sub 0 rfl, m.1.row hr2 fun h => h⟩, ?_⟩
    refine ⟨?_, ?_⟩
    · refine Make_s hnet hpr fun w34 hf => ?_; have m := m.fr hf
      refine ⟨⟨m.sub 0 rfl, m.1.row hr2 fun h => h⟩, ?_⟩
      intro w37; have m : Mem w2 w37 _ := m.allocL; clear_value w37
      refine ⟨⟨m.sub 1 rfl, m.1.row hr2 fun h => h⟩, ?_⟩
      refine ⟨m.wr 0 rfl rfl, ?_⟩
      intro w38; have m : Mem w2 w38 _ := m.set 0 rfl; clear_value w38; simp only [List.set_cons_zero] at m
      refine ⟨m.wr 0 rfl rfl, ?_⟩
      intro w39; have m : Mem w2 w39 _ := m.set 0 rfl; clear_value w39; simp only [List.set_cons_zero, List.set_cons_succ] at m
      exact hk1 m
    · intro w40; have m : Mem w2 w40 _ := m.allocL; clear_value w40
      refine ⟨⟨m.sub 1 rfl, m.1.row hr2 fun h => h⟩, ?_⟩
      refine Make_s hnet hpr fun w41 hf => ?_; have m := m.fr hf
      refine ⟨⟨m.sub 1 rfl, m.1.row hr2 fun h => h⟩, ?_⟩
      refine ⟨m.wr 0 rfl rfl, ?_⟩
      intro w44; have m : Mem w2 w44 _ := m.set 0 rfl; clear_value w44; simp only [List.set_cons_zero] at m
      refine ⟨m.wr 0 rfl rfl, ?_⟩
      intro w45; have m : Mem w2 w45 _ := m.set 0 rfl; clear_value w45; simp only [List.set_cons_zero, List.set_cons_succ] at m
      exact hk1 m
  · intro w46; have m : Mem w2 w46 _ := m.allocL; clear_value w46
    refine ⟨⟨m.sub 1 rfl, m.1.row hr2 fun h => h⟩, ?_⟩
    refine net_spec hp hcm fun w47 hf => ?_; have m := m.fr hf
    refine ⟨⟨m.sub 1 rfl, m.1.row hr2 fun h => h⟩, ?_⟩
    refine Make_s hnet hpr fun w49 hf => ?_; have m := m.fr hf
    refine ⟨⟨m.sub 1 rfl, m.1.row hr2 fun h => h⟩, ?_⟩
    refine ⟨m.wr 0 rfl rfl, ?_⟩
    intro w52; have m : Mem w2 w52 _ := m.set 0 rfl; clear_value w52; simp only [List.set_cons_zero] at m
    refine ⟨m.wr 0 rfl rfl, ?_⟩
    intro w53; have m : Mem w2 w53 _ := m.set 0 rfl; clear_value w53; simp only [List.set_cons_zero, List.set_cons_succ] at m
    exact hk1 m

/-- A function's value reckons keys. -/
def FnK (f : Value) (w0 : World) (l : List (Int × Int)) (g : Int × Int -> Int × Bool) : Prop :=
  ∀ x ∈ l, ∀ w, Fr F0 w0 w -> ∀ K : VW, (∀ w', Fr F0 w w' -> K (.tuple #[.int .i64 (g x).1, .bool (g x).2]) w') -> CallV Try.prog f [.agg #[.int .i64 x.1, .int .i64 x.2]] w K

theorem leastOf_spec {f : Value} {g : Int × Int -> Int × Bool} {l : List (Int × Int)} {K : Int -> Int -> Int -> Bool -> World -> Prop} (h : VR w s l) (hl : l.length < 2 ^ 62) (hf : FnK f w l g)
    (hK : ∀ w' a b n ok, Fr F0 w w' -> (ok = true -> ∃ x ∈ l, x = (a, b) /\ g x = (n, true)) -> K a b n ok w') : Cb_leastOf_sh s f K w := by
  refine ⟨?_⟩
  unfold Cb_leastOf_sd
  have el := h.len
  intro w1
  have m : Mem w w1 [(w.heap.size, [.int .i64 0, .int .i64 0])] := Mem.nil.alloc
  clear_value w1
  refine ⟨⟨fun n found i w' => ∃ (i' : Nat) (a b : Int), i = i' /\ i' <= l.length /\ Mem w w' [(w.heap.size, [.int .i64 a, .int .i64 b])] /\ (found = true -> ∃ x ∈ l, x = (a, b) /\ g x = (n, true)), fun _ _ i _ => l.length - i.toNat, ⟨0, 0, 0, rfl, by omega, m, fun h => by cases h⟩, ?_⟩⟩
  rintro n found i w2 ⟨i, a, b, rfl, hi, m, hfo⟩
  unfold Cb_leastOf_b0
  rw [cnd_prop]
  refine ⟨fun hlt => ?_, fun hge => ?_⟩
  · have hlt : i < l.length := by omega
    have hxm := List.getElem_mem hlt
    refine VR.ld (h.fr m.1) i rfl hlt fun ad hc => ?_
    obtain ⟨c0, c1⟩ := hc w2 Fr.refl
    refine ⟨_, c0, _, c1, ?_⟩
    intro w3
    have m : Mem w w3 _ := m.allocL
    clear_value w3
    refine ⟨m.wr 0 rfl rfl, ?_⟩
    intro w4
    have m : Mem w w4 _ := m.set 0 rfl
    clear_value w4
    simp only [List.set_cons_zero] at m
    refine ⟨m.wr 0 rfl rfl, ?_⟩
    intro w5
    have m : Mem w w5 _ := m.set 0 rfl
    clear_value w5
    simp only [List.set_cons_zero, List.set_cons_succ] at m
    refine ⟨_, m.ld 0 rfl rfl, _, m.ld 0 rfl rfl, hf _ hxm w5 m.1 _ fun w6 hf6 => ⟨_, _, rfl, ?_⟩⟩
    have m := m.fr hf6
    have hk : (g l[i]).2 = true -> Cb_leastOf_k1 f ⟨w.heap.size, 0, none⟩ ⟨w2.heap.size, 0, none⟩ (g l[i]).1 s (s.l : Int) i (fun (key_1' : Value) (best_4' : Addr) (n_5' : Int) (found_6' : Bool) (t_11' : Sl) (t_12' : Int) (t_13' : Int) (w' : World) => ((key_1' = f /\ best_4' = ⟨w.heap.size, 0, none⟩ /\ t_11' = s /\ t_12' = (s.l : Int) /\ True) /\ ∃ (i' : Nat) (a b : Int), t_13' = i' /\ i' <= l.length /\ Mem w w' [(w.heap.size, [.int .i64 a, .int .i64 b])] /\ (found_6' = true -> ∃ x ∈ l, x = (a, b) /\ g x = (n_5', true))) /\ l.length - t_13'.toNat < l.length - (i : Int).toNat) K w6 := by
      intro hok
      refine ⟨?_⟩
      unfold Cb_leastOf_k1d
      refine ⟨_, m.ld 0 rfl rfl, _, m.ld 0 rfl rfl, m.wr 1 rfl rfl, ?_⟩
      intro w7
      have m : Mem w w7 _ := m.set 1 rfl
      clear_value w7
      simp only [List.set_cons_zero, List.set_cons_succ] at m
      refine ⟨m.wr 1 rfl rfl, ?_⟩
      intro w8
      have m : Mem w w8 _ := m.set 1 rfl
      clear_value w8
      simp only [List.set_cons_zero, List.set_cons_succ] at m
      exact ⟨inR64 (by omega) (by omega), ⟨⟨rfl, rfl, rfl, rfl, trivial⟩, i + 1, _, _, by omega, by omega, m.dr 1 rfl, fun _ => ⟨_, hxm, rfl, by rw [← hok]⟩⟩, by omega⟩
    have hs : inR .i64 ((i : Int) + 1) /\ (((f = f /\ (⟨w.heap.size, 0, none⟩ : Addr) = ⟨w.heap.size, 0, none⟩ /\ s = s /\ (s.l : Int) = (s.l : Int) /\ True) /\ ∃ (i' : Nat) (a b : Int), (i : Int) + 1 = i' /\ i' <= l.length /\ Mem w w6 [(w.heap.size, [.int .i64 a, .int .i64 b])] /\ (found = true -> ∃ x ∈ l, x = (a, b) /\ g x = (n, true))) /\ l.length - ((i : Int) + 1).toNat < l.length - (i : Int).toNat) :=
      ⟨inR64 (by omega) (by omega), ⟨⟨rfl, rfl, rfl, rfl, trivial⟩, i + 1, _, _, by omega, by omega, m.dr 1 rfl, hfo⟩, by omega⟩
    rw [cnd_iff]
    refine ⟨fun hok => ?_, fun _ => hs⟩
    rw [cnd_iff]
    refine ⟨fun _ => hk hok, fun _ => ?_⟩
    rw [cnd_prop]
    exact ⟨fun _ => hk hok, fun _ => hs⟩
  · refine ⟨_, m.ld 0 rfl rfl, _, m.ld 0 rfl rfl, m.wr 0 rfl rfl, ?_⟩
    intro w3
    have m : Mem w w3 _ := m.set 0 rfl
    clear_value w3
    simp only [List.set_cons_zero] at m
    refine ⟨m.wr 0 rfl rfl, ?_⟩
    intro w4
    have m : Mem w w4 _ := m.set 0 rfl
    clear_value w4
    simp only [List.set_cons_zero, List.set_cons_succ] at m
    exact ⟨_, m.ld 0 rfl rfl, _, m.ld 0 rfl rfl, hK w4 a b n found m.1 hfo⟩

theorem options_spec {k : Nat} {pts bnd left : Int} {K : Sl -> World -> Prop} (h : PV w s0 s1 s2 p) (hr : Row w sb (schC t pts bnd ns s0 s1 s2 p.most p.budget left)) (hk : k < p.lots.length)
    (hK : ∀ s' w', Mk w 1 (ie .i64 id) w' s' (opts p p.lots[k]) -> K s' w') : Cs_options_sh (some ⟨sb, 0, none⟩) k K w := by
  refine ⟨?_⟩
  unfold Cs_options_sd
  have l1 := h.l1; have e1 := h.ch.len
  have l0 := h.l0; have e0 := h.lots.len
  intro w1
  have hmk : Mk w 1 (ie .i64 id) w1 ⟨some ⟨w.heap.size, 0, none⟩, 1, 1⟩ [(-1 : Int)] := Mk.new Fr.refl rfl rfl
  clear_value w1
  refine ⟨s1, (hmk.fr0.row hr fun h => h).at rfl, ⟨⟨fun out i w' => ∃ (i' : Nat) (l : List Int), i = i' /\ i' <= p.ch.length /\ Mk w 1 (ie .i64 id) w' out l /\ l.length <= i' + 1 /\ l ++ optsFrom p.lots[k] i' (p.ch.drop i') = opts p p.lots[k], fun _ i _ => p.ch.length - i.toNat,
    ⟨0, _, rfl, by omega, hmk, by simp, rfl⟩, ?_⟩⟩⟩
  rintro out i w2 ⟨i, l, rfl, hi, hm, hll, he⟩
  unfold Cs_options_b0
  rw [cnd_prop]
  refine ⟨fun hlt => ?_, fun hge => ?_⟩
  · have hlt : i < p.ch.length := by omega
    rw [List.drop_eq_getElem_cons hlt, optsFrom] at he
    refine VC.ld (h.fr hm.fr0).ch i rfl hlt fun a hc => ?_
    obtain ⟨c0, c1, c2, c3⟩ := hc w2 Fr.refl
    refine ⟨_, c0, _, c1, _, c2, _, c3, ?_⟩
    refine stN_new rfl Mem.nil fun w3 m => ?_
    intro w4
    have m : Mem w2 w4 [(w2.heap.size, encC p.ch[i])] := m.drew
    clear_value w4
    refine ⟨_, m.ld 0 rfl rfl, ?_⟩
    rw [nz_some]
    refine ⟨s0, ((hm.fr0.t m.1).row hr fun h => h).at rfl, ?_⟩
    refine VI.ld (h.fr (hm.fr0.t m.1)).lots k rfl hk ?_
    rw [cnd_beq]
    refine ⟨fun heq => ?_, fun hne => ?_⟩
    · rw [if_pos heq] at he
      refine Mk.push (hm.fr m.1) (a := (i : Int)) rfl rfl (ie_ok _ _) rfl (by omega) (by omega) fun r w5 hm5 _ => ?_
      exact ⟨inR64 (by omega) (by omega), ⟨⟨rfl, rfl, rfl, rfl, trivial⟩, i + 1, _, by omega, by omega, hm5, by simp; omega, by rw [← he]; simp⟩, by dsimp only; omega⟩
    · rw [if_neg hne] at he
      exact ⟨inR64 (by omega) (by omega), ⟨⟨rfl, rfl, rfl, rfl, trivial⟩, i + 1, _, by omega, by omega, hm.fr m.1, by omega, he⟩, by dsimp only; omega⟩
  · have : i = p.ch.length := by omega
    subst this
    rw [List.drop_of_length_le (Nat.le_refl _), optsFrom, List.append_nil] at he
    subst he
    exact hK out w2 hm
end
end Go.Proofs.Ytmkjcheafdionaa
