/- combine: values of takes, permitted takes, comparing lists, better takes. Conditions: none. -/
import Derived.Test.YtmkjcheafdionaaCD4
namespace Pw

/-- Comparing two lists. -/
def cmpLst : List Int -> List Int -> Int
  | [], [] => 0
  | [], _ :: _ => -1
  | _ :: _, [] => 1
  | x :: a, y :: b => if x < y then -1 else if y < x then 1 else cmpLst a b

theorem cmpLst_gt : ∀ a b : List Int, a.length = b.length -> (0 < cmpLst a b ↔ gtL a b = true)
  | [], [], _ => by simp [cmpLst, gtL]
  | [], _ :: _, h => by simp at h
  | _ :: _, [], h => by simp at h
  | x :: a, y :: b, h => by
    have ih := cmpLst_gt a b (by simpa using h)
    rw [cmpLst, gtL]
    by_cases h1 : x < y
    · rw [if_pos h1, if_neg (by omega), decide_eq_true_iff]
      omega
    · rw [if_neg h1]
      by_cases h2 : y < x
      · rw [if_pos h2, if_neg (by omega), decide_eq_true_iff]
        omega
      · rw [if_neg h2, if_pos (by omega)]
        exact ih

theorem cmpLst_range (a b : List Int) : -1 <= cmpLst a b /\ cmpLst a b <= 1 := by
  fun_induction cmpLst a b <;> omega

def btB (p : Pr) (a b : List Int) : Bool := decide (worth p b < worth p a) || (decide (worth p a = worth p b) && gtL b a)
theorem btB_iff {p : Pr} {a b : List Int} : btB p a b = true ↔ Bt p a b := by simp [btB, Bt]
end Pw
namespace Go.Proofs.Ytmkjcheafdionaa
open Go Pw

section
variable {w w' w0 : World} {s s0 s1 s2 s5 t0 t1 t2 t5 : Sl} {p : Pr} {f g : List Int}

theorem Clone_spec {l : List Int} {K : Sl -> World -> Prop} (h : VI w s l) (hl : l.length < 2 ^ 40) (hK : ∀ s' w', Mk w 1 (ie .i64 id) w' s' l -> K s' w') : slices_Clone_sh s K w := by
  refine ⟨?_⟩
  unfold slices_Clone_sd
  rw [cnd_iff]
  refine ⟨fun hn => ?_, fun _ => ?_⟩
  · have hnil : l = [] := by
      rcases Nat.eq_zero_or_pos l.length with h0 | h0
      · exact List.eq_nil_of_length_eq_zero h0
      · obtain ⟨ad, ha⟩ := h.ne (fun a => ie_length _ _ a) (by decide) h0
        rw [ha] at hn
        cases hn
    subst hnil
    exact hK _ _ (Mk.nil Fr.refl)
  · intro w1
    have hf1 : Fr F0 w w1 := Fr.alloc
    have hr : Row w1 w.heap.size [] := Row.new
    clear_value w1
    have hm : Mk w 1 (ie .i64 (id : Int -> Int)) w1 ⟨some ⟨w.heap.size, 0, none⟩, 0, 0⟩ [] :=
      ⟨hf1, ⟨rfl, rfl, .inr ⟨_, [], rfl, hr, rfl, Nat.le_refl _, rfl⟩⟩, fun b ⟨a, ha, hb⟩ => by cases ha; subst hb; exact Nat.le_refl _⟩
    exact hm.app (h.fr hf1) (ie_ok _ _) rfl (by simp; omega) (by simp; omega) fun r w2 hm2 _ => hK r w2 (by simpa using hm2)

theorem CompareL_spec {a b : List Int} {K : Int -> World -> Prop} (ha : VI w s a) (hb : VI w t0 b) (hla : a.length < 2 ^ 40) (_ : b.length < 2 ^ 40) (hK : K (cmpLst a b) w) : slices_Compare_sh s t0 K w := by
  have ea := ha.len; have eb := hb.len
  refine ⟨⟨⟨fun i w' => ∃ i' : Nat, i = i' /\ i' <= a.length /\ i' <= b.length /\ cmpLst a b = cmpLst (a.drop i') (b.drop i') /\ w' = w, fun i _ => a.length - i.toNat, ⟨0, rfl, by omega, by omega, rfl, rfl⟩, ?_⟩⟩⟩
  rintro i _ ⟨i, rfl, hi, hi2, he, rfl⟩
  unfold slices_Compare_b0
  rw [he] at hK
  rw [cnd_prop]
  refine ⟨fun hlt => ?_, fun hge => ?_⟩
  · have hlt : i < a.length := by omega
    rw [List.drop_eq_getElem_cons hlt] at hK he
    refine VI.ld ha i rfl hlt ?_
    rw [cnd_prop]
    refine ⟨fun hc => ?_, fun hc => ?_⟩
    · have e : b.drop i = [] := List.drop_of_length_le (by omega)
      rw [e] at hK
      exact hK
    · have hlt2 : i < b.length := by omega
      rw [List.drop_eq_getElem_cons hlt2] at hK he
      refine VI.ld hb i rfl hlt2 ?_
      refine Compare_i ?_
      rw [cmpLst] at hK he
      unfold cmpI
      rw [cnd_bne]
      by_cases h1 : a[i] < b[i]
      · rw [if_pos h1] at hK ⊢
        exact ⟨fun _ => hK, fun h => by omega⟩
      · rw [if_neg h1] at hK he ⊢
        by_cases h2 : b[i] < a[i]
        · rw [if_pos h2] at hK ⊢
          exact ⟨fun _ => hK, fun h => by omega⟩
        · rw [if_neg h2] at hK he ⊢
          exact ⟨fun h => absurd rfl h, fun _ => ⟨inR64 (by omega) (by omega), ⟨⟨rfl, rfl, rfl, rfl, trivial⟩, i + 1, by omega, by omega, by omega, he, rfl⟩, by dsimp only; omega⟩⟩
  · have : i = a.length := by omega
    subst this
    rw [List.drop_of_length_le (Nat.le_refl _)] at hK
    rw [cnd_prop]
    refine ⟨fun hc => ?_, fun hc => ?_⟩
    · rw [List.drop_eq_getElem_cons (by omega : a.length < b.length)] at hK
      exact hK
    · have e : b.drop a.length = [] := List.drop_of_length_le (by omega)
      rw [e] at hK
      exact hK

theorem worth_spec {K : Int -> World -> Prop} (hp : RightPr p) (h : PF w s0 s1 s2 s5 p f) (hd : Decs p p.lots f) (hK : ∀ w', Fr F0 w w' -> K (worth p f) w') : Cp_worth_sh s0 s1 s2 p.most p.budget s5 K w := by
  refine ⟨?_⟩
  unfold Cp_worth_sd
  intro w1
  have m : Mem w w1 [(w.heap.size, pfC s0 s1 s2 p.most p.budget s5)] := Mem.nil.alloc
  clear_value w1
  intro w2
  have m : Mem w w2 [(w.heap.size, pfC s0 s1 s2 p.most p.budget s5)] := m.drew
  clear_value w2
  have hb := worth_bound hp hd
  have hbu := hp.budget
  have hl := least_bound hp hd
  refine ⟨fun u => Rs u _, m.sub 0 rfl, _, fun _ h => h.ld 0 rfl rfl, _, fun _ h => h.ld 0 rfl rfl, _, fun _ h => h.ld 0 rfl rfl, _, fun _ h => h.ld 0 rfl rfl, _, fun _ h => h.ld 0 rfl rfl, _, fun _ h => h.ld 0 rfl rfl, _, fun _ h => h.ld 0 rfl rfl, inR64 (by have := hbu.1; omega) (by have := hbu.2; omega), _, fun _ h => h.ld 0 rfl rfl, _, fun _ h => h.ld 0 rfl rfl, _, fun _ h => h.ld 0 rfl rfl, _, fun _ h => h.ld 0 rfl rfl, _, fun _ h => h.ld 0 rfl rfl, _, fun _ h => h.ld 0 rfl rfl, ?_⟩
  refine points_spec hp (h.fr m.1) hd fun w3 hf3 => ?_
  have m3 := m.fr hf3
  refine ⟨m3.sub 0 rfl, inR64 (by omega) (by omega), least_spec hp (h.fr m3.1) hd fun w4 hf4 => ?_⟩
  have m4 := m3.fr hf4
  exact ⟨m4.sub 0 rfl, inR64 (by omega) (by omega), hK w4 m4.1⟩

theorem permitted_spec {K : Bool -> World -> Prop} (hp : RightPr p) (h : PF w s0 s1 s2 s5 p f) (hK : ∀ w', Fr F0 w w' -> K (permB p f) w') : Cp_permitted_sh s0 s1 s2 p.most p.budget s5 K w := by
  refine ⟨?_⟩
  unfold Cp_permitted_sd
  intro w1
  have m : Mem w w1 [(w.heap.size, pfC s0 s1 s2 p.most p.budget s5)] := Mem.nil.alloc
  clear_value w1
  intro w2
  have m : Mem w w2 [(w.heap.size, pfC s0 s1 s2 p.most p.budget s5)] := m.drew
  clear_value w2
  refine ⟨fun u => Rs u _, m.sub 0 rfl, _, fun _ h => h.ld 0 rfl rfl, _, fun _ h => h.ld 0 rfl rfl, _, fun _ h => h.ld 0 rfl rfl, _, fun _ h => h.ld 0 rfl rfl, _, fun _ h => h.ld 0 rfl rfl, _, fun _ h => h.ld 0 rfl rfl, ?_⟩
  refine fits_spec (h.fr m.1) fun w3 hf3 => ?_
  have m3 := m.fr hf3
  refine ⟨m3.sub 0 rfl, ?_⟩
  have hK3 := hK w3 m3.1
  unfold permB at hK3
  refine cnd_and (K := fun b => K b w3) hK3 fun h1 _ => ?_
  have hd : Decs p p.lots f := by
    unfold fitsB at h1
    simp only [Bool.and_eq_true] at h1
    exact decsB_iff.1 h1.2
  refine ⟨_, fun _ h => h.ld 0 rfl rfl, _, fun _ h => h.ld 0 rfl rfl, _, fun _ h => h.ld 0 rfl rfl, _, fun _ h => h.ld 0 rfl rfl, _, fun _ h => h.ld 0 rfl rfl, _, fun _ h => h.ld 0 rfl rfl, _, fun _ h => h.ld 0 rfl rfl, least_spec hp (h.fr m3.1) hd fun w4 hf4 => ?_⟩
  have m4 := m3.fr hf4
  refine ⟨m4.sub 0 rfl, ?_⟩
  have hK4 := hK w4 m4.1
  unfold permB at hK4
  rw [h1, Bool.true_and] at hK4
  refine cnd_and (K := fun b => K b w4) hK4 fun h2 _ => ?_
  refine ⟨_, fun _ h => h.ld 0 rfl rfl, _, fun _ h => h.ld 0 rfl rfl, _, fun _ h => h.ld 0 rfl rfl, _, fun _ h => h.ld 0 rfl rfl, _, fun _ h => h.ld 0 rfl rfl, _, fun _ h => h.ld 0 rfl rfl, crowded_spec hp (h.fr m4.1) hd fun w5 hf5 => ?_⟩
  have m5 := m4.fr hf5
  refine ⟨m5.sub 0 rfl, ?_⟩
  have hK5 := hK w5 m5.1
  unfold permB at hK5
  rw [h1, h2, Bool.true_and, Bool.true_and] at hK5
  exact hK5

theorem better_spec {K : Bool -> World -> Prop} (hp : RightPr p) (h : PF w s0 s1 s2 s5 p f) (h' : PF w t0 t1 t2 t5 p g) (hd : Decs p p.lots f) (hd' : Decs p p.lots g) (hl : f.length = g.length) (hK : ∀ w', Fr F0 w w' -> K (btB p f g) w') :
    Cb_better_sh s0 s1 s2 p.most p.budget s5 t0 t1 t2 p.most p.budget t5 K w := by
  refine ⟨?_⟩
  unfold Cb_better_sd
  intro w1
  have m : Mem w w1 [(w.heap.size, pfC s0 s1 s2 p.most p.budget s5)] := Mem.nil.alloc
  clear_value w1
  intro w2
  have m : Mem w w2 [(w1.heap.size, pfC t0 t1 t2 p.most p.budget t5), (w.heap.size, pfC s0 s1 s2 p.most p.budget s5)] := m.alloc
  clear_value w2
  intro w3
  have m : Mem w w3 [(w1.heap.size, pfC t0 t1 t2 p.most p.budget t5), (w.heap.size, pfC s0 s1 s2 p.most p.budget s5)] := m.drew
  clear_value w3
  refine ⟨fun u => Rs u _, m.sub 0 rfl, _, fun _ h => h.ld 1 rfl rfl, _, fun _ h => h.ld 1 rfl rfl, _, fun _ h => h.ld 1 rfl rfl, _, fun _ h => h.ld 1 rfl rfl, _, fun _ h => h.ld 1 rfl rfl, _, fun _ h => h.ld 1 rfl rfl, _, fun _ h => h.ld 0 rfl rfl, _, fun _ h => h.ld 0 rfl rfl, _, fun _ h => h.ld 0 rfl rfl, _, fun _ h => h.ld 0 rfl rfl, _, fun _ h => h.ld 0 rfl rfl, _, fun _ h => h.ld 0 rfl rfl, _, fun _ h => h.ld 0 rfl rfl, _, fun _ h => h.ld 1 rfl rfl, ?_⟩
  refine worth_spec hp (h.fr m.1) hd fun w4 hf4 => ?_
  have m4 := m.fr hf4
  refine ⟨m4.sub 0 rfl, worth_spec hp (h'.fr m4.1) hd' fun w5 hf5 => ?_⟩
  have m5 := m4.fr hf5
  refine ⟨m5.sub 0 rfl, Compare_i ⟨m5.sub 0 rfl, CompareL_spec (h'.fr m5.1).tk (h.fr m5.1).tk h'.lt h.lt ⟨m5.sub 0 rfl, ?_⟩⟩⟩
  intro w6
  have m6 : Mem w w6 [(w5.heap.size, [.int .i64 (cmpI (worth p f) (worth p g)), .int .i64 (cmpLst g f)]), (w1.heap.size, pfC t0 t1 t2 p.most p.budget t5), (w.heap.size, pfC s0 s1 s2 p.most p.budget s5)] := m5.alloc
  clear_value w6
  refine ⟨m6.sub 1 rfl, Or_two (m6.ld 0 rfl rfl) (m6.ld 0 rfl rfl) ⟨m6.sub 1 rfl, ?_⟩⟩
  have := hK w6 m6.1
  rwa [show btB p f g = decide ((if cmpI (worth p f) (worth p g) ≠ 0 then cmpI (worth p f) (worth p g) else cmpLst g f) > 0) from ?_] at this
  rw [Bool.eq_iff_iff, btB_iff, decide_eq_true_iff]
  have hc := cmpLst_gt g f hl.symm
  unfold Bt cmpI
  by_cases h1 : worth p f < worth p g
  · rw [if_pos h1, if_pos (by decide)]
    omega
  · rw [if_neg h1]
    by_cases h2 : worth p g < worth p f
    · rw [if_pos h2, if_pos (by decide)]
      exact ⟨fun _ => by decide, fun _ => .inl h2⟩
    · rw [if_neg h2, if_neg (by simp)]
      constructor
      · rintro (h3 | ⟨_, h3⟩)
        · exact absurd h3 h2
        · exact hc.2 h3
      · intro h3
        exact .inr ⟨by omega, hc.1 h3⟩

theorem net_spec {c : Ch} {K : Int -> World -> Prop} (hp : RightPr p) (hc : c ∈ p.ch) (hK : ∀ w', Fr F0 w w' -> K (c.pts * (p.budget + 1) - c.price) w') : Cp_net_sh s0 s1 s2 p.most p.budget s5 c.lot c.bid c.price c.pts K w := by
  refine ⟨?_⟩
  unfold Cp_net_sd
  intro w1
  have m : Mem w w1 [(w.heap.size, pfC s0 s1 s2 p.most p.budget s5)] := Mem.nil.alloc
  clear_value w1
  intro w2
  have m : Mem w w2 [(w1.heap.size, encC c), (w.heap.size, pfC s0 s1 s2 p.most p.budget s5)] := m.alloc
  clear_value w2
  have hb := net_bound hp hc
  have hbu := hp.budget
  have hpr := (hp.ch c hc).2.1
  exact ⟨_, m.ld 0 rfl rfl, _, m.ld 1 rfl rfl, inR64 (by have := hbu.1; omega) (by have := hbu.2; omega), inR64 (by omega) (by omega), _, m.ld 0 rfl rfl, inR64 (by have := hpr.2; omega) (by have := hpr.1; omega), hK w2 m.1⟩
end
end Go.Proofs.Ytmkjcheafdionaa
