/- CombineLocal. Conditions: none. -/
import Derived.Test.YtmkjcheafdionaaCEN
namespace Go.Proofs.Ytmkjcheafdionaa
open Go Pw

section
variable {w wB wM : World} {s t s0 s1 s2 n1 : Sl} {l a : List Int} {p : Pr} {pb rb : Nat} {pts bnd : Int}

/-- No list is better than the best take. -/
theorem better_best (hA : IsBest p a) (x : List Int) : betterR p x a = false := by
  unfold betterR
  rw [permB_iff.2 hA.1]
  cases hx : permB p x with
  | false => simp
  | true =>
    have := hA.2 x (permB_iff.1 hx)
    cases hb : btB p x a with
    | false => simp
    | true => exact absurd (btB_iff.1 hb) this

theorem Local_l4 {i k : Nat} {a9 : Int} {N3 : Bool -> Addr -> Addr -> Int -> Int -> Int -> World -> Prop} {N2 : Bool -> Addr -> Addr -> Int -> Int -> World -> Prop} {N1 : Bool -> Addr -> Addr -> Int -> World -> Prop} {K : Bool -> World -> Prop} (hp : RightPr p) (hP : PV wB s0 s1 s2 p) (hA : IsBest p a) (ht : VI wB t a)
    (hpr : Row wB pb (prC s0 s1 s2 p.most p.budget)) (hrr : Row wB rb (reC t pts bnd n1)) (hi : i < a.length) (hk : k < a.length) (ha : -1 <= a9 /\ a9 < p.ch.length) (hf : Fr F0 wB w)
    (hN : ∀ w', Fr F0 wB w' -> N3 true ⟨pb, 0, none⟩ ⟨rb, 0, none⟩ i k (a9 + 1) w') : Lw_CombineLocal_l4 true ⟨pb, 0, none⟩ ⟨rb, 0, none⟩ i k a9 (-1) N3 N2 N1 K w := by
  have hlen := ht.len
  have hcl := hP.ch.len
  have hc := hp.chs
  have hal : a.length <= 12 := by have := hA.1.1; have := hp.few; omega
  refine ⟨⟨fun b w' => ∃ b' : Nat, b = (b' : Int) - 1 /\ b' <= p.ch.length + 1 /\ Fr F0 wB w', fun b _ => p.ch.length + 1 - (b + 1).toNat, ⟨0, rfl, by omega, hf⟩, ?_⟩⟩
  rintro b w1 ⟨b, rfl, hb, hf⟩
  unfold Lw_CombineLocal_b4
  have hp1 := hf.row hpr fun h => h
  refine ⟨s1, hp1.at rfl, ?_⟩
  rw [cnd_prop]
  refine ⟨fun hlt => ?_, fun hge => ⟨inR64 (by omega) (by omega), hN _ hf⟩⟩
  intro w43
  have h : Sp w1 w43 [] _ _ _ _ _ _ := Sp.empty (α := Int) (n := 1) (enc := ie .i64 id) (fun a => ie_length _ _ a) Mem.nil
  clear_value w43
  have hr := fun {u} (hu : Fr F0 w1 u) => (hf.t hu).row hrr fun h => h
  have hpq := fun {u} (hu : Fr F0 w1 u) => (hf.t hu).row hpr fun h => h
  refine ⟨t, (hr h.m.1).at rfl, h.app (ht.fr (hf.t h.m.1)) (ie_ok _ _) rfl (by simp; omega) (by simp; omega) fun s45 w46 h => ?_⟩
  rw [List.nil_append] at h
  have hsl := h.ow.vw.len
  obtain ⟨q, hq, hw1, hput⟩ := Sp.put h hi
  refine nz_iff.2 ⟨_, hq, ⟨by omega, by omega⟩, ?_⟩
  have e1 : (⟨q, 0, none⟩ : Addr).add ((i : Int).toNat * 1) = ⟨q, i, none⟩ := by
    by_cases h0 : i = 0
    · subst h0; rfl
    · simp [Addr.add, h0]
  rw [e1]
  refine ⟨hw1, ?_⟩
  intro w48
  have h : Sp w1 w48 [] _ _ _ _ _ _ := hput a9
  clear_value w48
  obtain ⟨q', hq', hw2, hput2⟩ := Sp.put h (i := k) (by simpa using hk)
  rw [hq] at hq'
  cases hq'
  refine nz_iff.2 ⟨_, hq, ⟨by omega, by omega⟩, ?_⟩
  have e2 : (⟨q, 0, none⟩ : Addr).add ((k : Int).toNat * 1) = ⟨q, k, none⟩ := by
    by_cases h0 : k = 0
    · subst h0; rfl
    · simp [Addr.add, h0]
  rw [e2]
  refine ⟨hw2, ?_⟩
  intro w50
  have h : Sp w1 w50 [] _ _ _ _ _ _ := hput2 ((b : Int) - 1)
  clear_value w50
  have hp2 := hpq h.m.1
  refine ⟨s0, hp2.at rfl, s1, hp2.at rfl, s2, hp2.at rfl, _, hp2.at rfl, _, hp2.at rfl, t, (hr h.m.1).at rfl, ?_⟩
  refine Better_spec (hP.fr (hf.t h.m.1)) h.ow.vw (by simp; omega) (ht.fr (hf.t h.m.1)) (by omega) fun w57 hf57 => ?_
  rw [better_best hA]
  exact cnd_iff.2 ⟨fun h => (by cases h), fun _ => ⟨inR64 (by omega) (by omega), ⟨⟨rfl, rfl, rfl, rfl, rfl, rfl, trivial⟩, b + 1, by omega, by omega, hf.t (h.m.1.t hf57)⟩, by dsimp only; omega⟩⟩

theorem Local_l3 {i k : Nat} {N2 : Bool -> Addr -> Addr -> Int -> Int -> World -> Prop} {N1 : Bool -> Addr -> Addr -> Int -> World -> Prop} {K : Bool -> World -> Prop} (hp : RightPr p) (hP : PV wB s0 s1 s2 p) (hA : IsBest p a) (ht : VI wB t a)
    (hpr : Row wB pb (prC s0 s1 s2 p.most p.budget)) (hrr : Row wB rb (reC t pts bnd n1)) (hi : i < a.length) (hk : k < a.length) (hf : Fr F0 wB w)
    (hN : ∀ w', Fr F0 wB w' -> N2 true ⟨pb, 0, none⟩ ⟨rb, 0, none⟩ i ((k : Int) + 1) w') : Lw_CombineLocal_l3 true ⟨pb, 0, none⟩ ⟨rb, 0, none⟩ i k (-1) N2 N1 K w := by
  have hcl := hP.ch.len
  have hc := hp.chs
  have hal : a.length <= 12 := by have := hA.1.1; have := hp.few; omega
  refine ⟨⟨fun b w' => ∃ b' : Nat, b = (b' : Int) - 1 /\ b' <= p.ch.length + 1 /\ Fr F0 wB w', fun b _ => p.ch.length + 1 - (b + 1).toNat, ⟨0, rfl, by omega, hf⟩, ?_⟩⟩
  rintro b w1 ⟨b, rfl, hb, hf⟩
  unfold Lw_CombineLocal_b3
  refine ⟨s1, (hf.row hpr fun h => h).at rfl, ?_⟩
  rw [cnd_prop]
  refine ⟨fun hlt => ?_, fun hge => ⟨inR64 (by omega) (by omega), hN _ hf⟩⟩
  exact Local_l4 hp hP hA ht hpr hrr hi hk ⟨by omega, by omega⟩ hf fun w' hf' => ⟨⟨⟨rfl, rfl, rfl, rfl, rfl, trivial⟩, b + 1, by omega, by omega, hf'⟩, by dsimp only; omega⟩

theorem Local_l2 {i : Nat} {N1 : Bool -> Addr -> Addr -> Int -> World -> Prop} {K : Bool -> World -> Prop} (hp : RightPr p) (hP : PV wB s0 s1 s2 p) (hA : IsBest p a) (ht : VI wB t a)
    (hpr : Row wB pb (prC s0 s1 s2 p.most p.budget)) (hrr : Row wB rb (reC t pts bnd n1)) (hi : i < a.length) (hf : Fr F0 wB w)
    (hN : ∀ w', Fr F0 wB w' -> N1 true ⟨pb, 0, none⟩ ⟨rb, 0, none⟩ ((i : Int) + 1) w') : Lw_CombineLocal_l2 true ⟨pb, 0, none⟩ ⟨rb, 0, none⟩ i 0 N1 K w := by
  have hal : a.length <= 12 := by have := hA.1.1; have := hp.few; omega
  refine ⟨⟨fun k w' => ∃ k' : Nat, k = k' /\ k' <= i + 1 /\ Fr F0 wB w', fun k _ => i + 1 - k.toNat, ⟨0, rfl, by omega, hf⟩, ?_⟩⟩
  rintro k w1 ⟨k, rfl, hb, hf⟩
  unfold Lw_CombineLocal_b2
  rw [cnd_prop]
  refine ⟨fun hlt => ?_, fun hge => ⟨inR64 (by omega) (by omega), hN _ hf⟩⟩
  exact Local_l3 hp hP hA ht hpr hrr hi (by omega) hf fun w' hf' => ⟨⟨⟨rfl, rfl, rfl, rfl, trivial⟩, k + 1, by omega, by omega, hf'⟩, by dsimp only; omega⟩

theorem Local_l1 {K : Bool -> World -> Prop} (hp : RightPr p) (hP : PV wB s0 s1 s2 p) (hA : IsBest p a) (ht : VI wB t a)
    (hpr : Row wB pb (prC s0 s1 s2 p.most p.budget)) (hrr : Row wB rb (reC t (ptsOf p a) bnd n1)) (hK : ∀ w', Fr F0 wB w' -> K true w') : Lw_CombineLocal_l1 true ⟨pb, 0, none⟩ ⟨rb, 0, none⟩ 0 K wB := by
  have hal : a.length <= 12 := by have := hA.1.1; have := hp.few; omega
  have he := hA.1.1
  have h0 := hP.lots.len
  refine ⟨⟨fun i w' => ∃ i' : Nat, i = i' /\ i' <= a.length /\ Fr F0 wB w', fun i _ => a.length - i.toNat, ⟨0, rfl, by omega, Fr.refl⟩, ?_⟩⟩
  rintro i w1 ⟨i, rfl, hb, hf⟩
  unfold Lw_CombineLocal_b1
  have hp1 := hf.row hpr fun h => h
  have hr1 := hf.row hrr fun h => h
  refine ⟨s0, hp1.at rfl, ?_⟩
  rw [cnd_prop]
  refine ⟨fun hlt => ?_, fun hge => ?_⟩
  · exact Local_l2 hp hP hA ht hpr hrr (by omega) hf fun w' hf' => ⟨⟨⟨rfl, rfl, rfl, trivial⟩, i + 1, by omega, by omega, hf'⟩, by dsimp only; omega⟩
  · have hfit : fitsB p a = true := by
      unfold fitsB
      rw [Bool.and_eq_true, decide_eq_true_eq, decsB_iff]
      exact ⟨he, hA.1.2.1⟩
    have e1 : paidR p (rightB p) (fitsB p a) a = (leastOf p a, true) := by
      unfold paidR
      rw [rightB_iff.2 hp, hfit]
      rfl
    have e2 : pointsR p (rightB p) (fitsB p a) a = ptsOf p a := by
      unfold pointsR
      rw [rightB_iff.2 hp, hfit]
      rfl
    refine ⟨s0, hp1.at rfl, s1, hp1.at rfl, s2, hp1.at rfl, _, hp1.at rfl, _, hp1.at rfl, t, hr1.at rfl, ?_⟩
    refine Paid_spec (hP.fr hf) (ht.fr hf) (by omega) fun w65 hf65 => ?_
    rw [e1]
    intro w68
    have hf68 : Fr F0 wB w68 := (hf.t hf65).t Fr.drew
    clear_value w68
    refine ⟨fun u => Row u pb (prC s0 s1 s2 p.most p.budget) /\ Row u rb (reC t (ptsOf p a) bnd n1), ⟨hf68.row hpr fun h => h, hf68.row hrr fun h => h⟩, ?_⟩
    refine cnd_iff.2 ⟨fun _ => cnd_iff.2 ⟨fun _ => ⟨_, fun u hu => hu.1.at rfl, ?_⟩, fun h => (by cases h)⟩, fun h => (by cases h)⟩
    rw [cnd_prop]
    refine ⟨fun _ => ?_, fun h => absurd hA.1.2.2.1 h⟩
    refine ⟨s0, fun u hu => hu.1.at rfl, s1, fun u hu => hu.1.at rfl, s2, fun u hu => hu.1.at rfl, _, fun u hu => hu.1.at rfl, _, fun u hu => hu.1.at rfl, t, fun u hu => hu.2.at rfl, _, fun u hu => hu.2.at rfl, ?_⟩
    refine Points_spec (hP.fr hf68) (ht.fr hf68) (by omega) fun w78 hf78 => ?_
    have hf79 := hf68.t hf78
    rw [e2]
    refine ⟨⟨hf79.row hpr fun h => h, hf79.row hrr fun h => h⟩, ?_⟩
    rw [show (ptsOf p a == ptsOf p a) = true from beq_self_eq_true _]
    exact hK _ hf79

theorem Local_k0 {K : Bool -> World -> Prop} {B : Nat -> Prop} (hp : RightPr p) (hP : PV wM s0 s1 s2 p) (hA : IsBest p a)
    (h : Sp wM wB [(rb, reC t (ptsOf p a) bnd n1), (pb, prC s0 s1 s2 p.most p.budget)] B (fun w => Ow 1 (ie .i64 (id : Int -> Int)) w t a) 1 (ie .i64 (id : Int -> Int)) s l) (hK : ∀ w', Fr F0 wM w' -> K true w') : Lw_CombineLocal_k0 true ⟨pb, 0, none⟩ ⟨rb, 0, none⟩ 0 K wB := by
  refine ⟨?_⟩
  unfold Lw_CombineLocal_k0d
  have hv := h.q.vw
  have e1 := hv.len
  have e2 := hP.lots.len
  have e3 := hA.1.1
  rw [cnd_bne]
  refine ⟨fun h => absurd rfl h, fun _ => ⟨t, h.ld 0 rfl rfl, s0, h.ld 1 rfl rfl, ?_⟩⟩
  rw [cnd_bne]
  refine ⟨fun h => absurd (by omega) h, fun _ => ?_⟩
  exact Local_l1 hp (hP.fr h.m.1) hA hv (h.row 1 rfl) (h.row 0 rfl) fun w' hf => hK w' (h.m.1.t hf)

theorem Local_spec {K : Bool -> World -> Prop} (hv : VI w s l) (hl : l.length < 2 ^ 63) (hK : ∀ w', Fr F0 w w' -> K true w') : Lw_CombineLocal_sh s K w := by
  have hpn := made_prefN l
  have hp := madeP_right l
  have hwk : Wi (prefN (madeP l) (madeP l).lots : Nat) 1048576 := ⟨by omega, by omega⟩
  refine ⟨?_⟩
  unfold Lw_CombineLocal_sd
  refine sanity_spec fun w1 hf1 => ?_
  refine Made_spec (hv.fr hf1) hl fun w3 s0 s1 s2 hf3 hP => ?_
  have hK3 : ∀ w', Fr F0 w3 w' -> K true w' := fun w' h => hK w' ((hf1.t hf3).t h)
  refine stN_new (w0 := w3) (l := []) rfl Mem.nil fun w6 m => ?_
  intro w7
  have m : Mem w3 w7 _ := m.drew
  clear_value w7
  refine ⟨fun u => Row u w3.heap.size (prC s0 s1 s2 (madeP l).most (madeP l).budget), m.row 0 rfl, s0, fun u hu => hu.at rfl, s1, fun u hu => hu.at rfl, s2, fun u hu => hu.at rfl, _, fun u hu => hu.at rfl, _, fun u hu => hu.at rfl,
    s0, fun u hu => hu.at rfl, s1, fun u hu => hu.at rfl, s2, fun u hu => hu.at rfl, _, fun u hu => hu.at rfl, _, fun u hu => hu.at rfl, ?_, ?_⟩
  · refine Prefixes_spec (hP.fr m.1) (by omega) fun w19 hf => ?_
    have m := m.fr hf
    refine ⟨m.row 0 rfl, ?_, ?_⟩
    · refine Solve_full hp (hP.fr m.1) hwk (Int.le_refl _) fun w21 t bnd ns T cs N hV hT hbd _ => ?_
      have h := Sp.ofV (α := Int) (n := 1) (enc := ie .i64 (id : Int -> Int)) m hV
      refine ⟨h.row 0 rfl, ?_⟩
      intro w24
      have h : Sp w3 w24 _ _ _ _ _ _ _ := h.allocL (vs := [.slice none 0 0, .int .i64 0, .int .i64 0, .slice none 0 0])
      clear_value w24
      refine ⟨h.row 1 rfl, stN_sp h 0 rfl rfl fun w25 h => ?_⟩
      exact Local_k0 hp hP hT h hK3
    · intro w26
      have m : Mem w3 w26 _ := m.allocL (cs := [.slice none 0 0, .int .i64 0, .int .i64 0, .slice none 0 0])
      clear_value w26
      refine ⟨m.row 1 rfl, Solve_full hp (hP.fr m.1) hwk (Int.le_refl _) fun w21 t bnd ns T cs N hV hT hbd _ => ?_⟩
      have h := Sp.ofV (α := Int) (n := 1) (enc := ie .i64 (id : Int -> Int)) m hV
      refine ⟨h.row 1 rfl, stN_sp h 0 rfl rfl fun w25 h => ?_⟩
      exact Local_k0 hp hP hT h hK3
  · intro w26
    have m : Mem w3 w26 _ := m.allocL (cs := [.slice none 0 0, .int .i64 0, .int .i64 0, .slice none 0 0])
    clear_value w26
    refine ⟨m.row 1 rfl, Prefixes_spec (hP.fr m.1) (by omega) fun w19 hf => ?_⟩
    have m := m.fr hf
    refine ⟨m.row 1 rfl, Solve_full hp (hP.fr m.1) hwk (Int.le_refl _) fun w21 t bnd ns T cs N hV hT hbd _ => ?_⟩
    have h := Sp.ofV (α := Int) (n := 1) (enc := ie .i64 (id : Int -> Int)) m hV
    refine ⟨h.row 1 rfl, stN_sp h 0 rfl rfl fun w25 h => ?_⟩
    exact Local_k0 hp hP hT h hK3
end
end Go.Proofs.Ytmkjcheafdionaa
