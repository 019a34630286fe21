/- CombineBetter. Conditions: none. -/
import Derived.Test.YtmkjcheafdionaaGreatCL2
import Derived.Test.YtmkjcheafdionaaGreatCF2
namespace Go.Proofs.YtmkjcheafdionaaGreat
open Go Pw
theorem btB_irrefl (p : Pr) (a : List Int) : btB p a a = false := by
  cases h : btB p a a with
  | false => rfl
  | true => exact absurd (btB_iff.1 h) Bt.irrefl
theorem betterR_two {p : Pr} {x y : List Int} (hr : rightB p = true) (hx : permB p x = true) (hy : permB p y = true) : (betterR p x y == betterR p y x) = decide (x = y) /\ ¬ (betterR p x y = true /\ betterR p y x = true) := by
  have e1 : betterR p x y = btB p x y := by unfold betterR; simp [hr, hx, hy]
  have e2 : betterR p y x = btB p y x := by unfold betterR; simp [hr, hx, hy]
  rw [e1, e2]
  by_cases h : x = y
  . subst h
    rw [btB_irrefl]
    simp
  . have hx' := permB_iff.1 hx
    have hy' := permB_iff.1 hy
    rw [decide_eq_false h]
    rcases Bt.total (p := p) (show x.length = y.length by rw [hx'.1, hy'.1]) h with q | q
    . have q1 := btB_iff.2 q
      have q2 : btB p y x = false := by
        cases hh : btB p y x with
        | false => rfl
        | true => exact absurd (btB_iff.1 hh) q.asymm
      rw [q1, q2]; simp
    . have q1 := btB_iff.2 q
      have q2 : btB p x y = false := by
        cases hh : btB p x y with
        | false => rfl
        | true => exact absurd (btB_iff.1 hh) q.asymm
      rw [q1, q2]; simp
section
variable {w w' : World} {s s0 s1 s2 t0 t1 t2 m0 m1 r0 r1 : Sl} {p q : Pr} {y0 y1 x0 x1 l : List Int} {ab al mb : Nat}
structure BtL (u : World) (ab al : Nat) (s0 s1 s2 : Sl) (p : Pr) (t0 t1 t2 : Sl) (q : Pr) (mb : Nat) (m0 m1 : Sl) (y0 y1 : List Int) : Prop where
  A : AL u ab al s0 s1 s2 p t0 t1 t2 q
  row : Row u mb [.slice m0.p m0.l m0.c, .slice m1.p m1.l m1.c]
  v0 : VI u m0 y0
  v1 : VI u m1 y1
theorem BtL.fr (h : BtL w ab al s0 s1 s2 p t0 t1 t2 q mb m0 m1 y0 y1) (hf : Fr F0 w w') : BtL w' ab al s0 s1 s2 p t0 t1 t2 q mb m0 m1 y0 y1 :=
  ⟨h.A.fr hf, hf.row h.row fun h => h, h.v0.fr hf, h.v1.fr hf⟩
theorem LBetter_k2 {i : Nat} {one two both : Bool} {N1 : Addr -> Bool -> Addr -> Int -> World -> Prop} {K : Bool -> World -> Prop} (hi : i < 2) (h0 : VI w r0 x0) (h1 : VI w r1 x1) (hl : x0.length < 2 ^ 40)
    (hb : both = true -> (one == two) = decide (x0 = x1) /\ ¬ (one = true /\ two = true)) (hN : ∀ w', Fr F0 w w' -> N1 ⟨mb, 0, none⟩ true ⟨al, 0, none⟩ ((i : Int) + 1) w') :
    probitylaw21_CombineBetter_k2 ⟨mb, 0, none⟩ true ⟨al, 0, none⟩ i r0 r1 one two both N1 K w := by
  refine ⟨?_⟩
  unfold probitylaw21_CombineBetter_k2d
  have ok : ∀ {u}, Fr F0 w u -> inR .i64 ((i : Int) + (1 : Int)) /\ N1 ⟨mb, 0, none⟩ true ⟨al, 0, none⟩ ((i : Int) + 1) u := fun hu => ⟨inR64 (by omega) (by omega), hN _ hu⟩
  refine cnd_iff.2 ⟨fun hy => Ints_spec h0 h1 (by omega) fun w112 hf => ?_, fun hn => ?_⟩
  . obtain ⟨g1, g2⟩ := hb hy
    refine cnd_iff.2 ⟨fun h => ?_, fun _ => cnd_iff.2 ⟨fun _ => cnd_iff.2 ⟨fun ho => cnd_iff.2 ⟨fun ht => absurd ⟨ho, ht⟩ g2, fun _ => ok hf⟩, fun _ => ok hf⟩, fun _ => ok hf⟩⟩
    rw [g1] at h
    simp at h
  . refine cnd_iff.2 ⟨fun h => ?_, fun _ => ok Fr.refl⟩
    rw [hn] at h
    cases h
theorem LBetter_k0 {K : Bool -> World -> Prop} (hB : BtL w ab al s0 s1 s2 p t0 t1 t2 q mb m0 m1 y0 y1) (hl0 : y0.length < 2 ^ 63) (hK : ∀ w', Fr F0 w w' -> K true w') : probitylaw21_CombineBetter_k0 ⟨mb, 0, none⟩ true ⟨al, 0, none⟩ K w := by
  refine ⟨?_⟩
  unfold probitylaw21_CombineBetter_k0d
  refine ⟨⟨fun i w' => ∃ i' : Nat, i = i' /\ i' <= 2 /\ Fr F0 w w', fun i _ => 2 - i.toNat, ⟨0, rfl, by omega, Fr.refl⟩, ?_⟩⟩
  rintro i w1 ⟨i, rfl, hi, hf⟩
  unfold probitylaw21_CombineBetter_b1
  refine cnd_prop.2 ⟨fun hlt => ?_, fun _ => hK w1 hf⟩
  have hi2 : i < 2 := by omega
  have hS : ∀ {u}, Fr F0 w u -> BtL u ab al s0 s1 s2 p t0 t1 t2 q mb m0 m1 y0 y1 := fun hu => hB.fr hu
  intro w32
  have hf : Fr F0 w w32 := hf.t Fr.drew
  clear_value w32
  refine ⟨fun u => BtL u ab al s0 s1 s2 p t0 t1 t2 q mb m0 m1 y0 y1, hS hf, ⟨by omega, by omega⟩, _, fun u hu => (hu.A.at i hi2).1.1, _, fun u hu => (hu.A.at i hi2).1.2.1, _, fun u hu => (hu.A.at i hi2).1.2.2.1, _, fun u hu => (hu.A.at i hi2).1.2.2.2.1, _, fun u hu => (hu.A.at i hi2).1.2.2.2.2, ⟨by omega, by omega⟩, m0, fun u hu => hu.row.at rfl, ?_⟩
  refine list_spec ((hS hf).A.at i hi2).2 (hS hf).v0 fun w40 rx x vx gx => ?_
  have hvx : ∀ {u}, Fr F0 w40 u -> VI u rx x := fun hu => vx.ow.vw.fr hu
  have hf := hf.t vx.fr0
  have hx0 : Fr F0 w40 w40 := Fr.refl
  intro w42
  have hx1 : Fr F0 w40 w42 := Fr.drew
  have hf : Fr F0 w w42 := hf.t Fr.drew
  clear_value w42
  refine ⟨fun u => BtL u ab al s0 s1 s2 p t0 t1 t2 q mb m0 m1 y0 y1, hS hf, ⟨by omega, by omega⟩, _, fun u hu => (hu.A.at i hi2).1.1, _, fun u hu => (hu.A.at i hi2).1.2.1, _, fun u hu => (hu.A.at i hi2).1.2.2.1, _, fun u hu => (hu.A.at i hi2).1.2.2.2.1, _, fun u hu => (hu.A.at i hi2).1.2.2.2.2, ⟨by omega, by omega⟩, m1, fun u hu => hu.row.at rfl, ?_⟩
  refine list_spec ((hS hf).A.at i hi2).2 (hS hf).v1 fun w50 ry y vy gy => ?_
  have hvy : ∀ {u}, Fr F0 w50 u -> VI u ry y := fun hu => vy.ow.vw.fr hu
  have hf50 := hf.t vy.fr0
  have hvx : ∀ {u}, Fr F0 w50 u -> VI u rx x := fun hu => hvx ((hx1.t vy.fr0).t hu)
  have hS : ∀ {u}, Fr F0 w50 u -> BtL u ab al s0 s1 s2 p t0 t1 t2 q mb m0 m1 y0 y1 := fun hu => hB.fr (hf50.t hu)
  clear hf hx1 hx0
  have hf : Fr F0 w50 w50 := Fr.refl
  have rw_ : ∀ {u}, Fr F0 w50 u -> _ := fun {u} hu => ((hS hu).A.at i hi2).1
  refine ⟨⟨by omega, by omega⟩, _, (rw_ hf).1, _, (rw_ hf).2.1, _, (rw_ hf).2.2.1, _, (rw_ hf).2.2.2.1, _, (rw_ hf).2.2.2.2, Better_spec ((hS hf).A.at i hi2).2 (hvx hf) (by omega) (hvy hf) (by omega) fun w57 hf1 => ?_⟩
  have hf := hf.t hf1
  refine ⟨⟨by omega, by omega⟩, _, (rw_ hf).1, _, (rw_ hf).2.1, _, (rw_ hf).2.2.1, _, (rw_ hf).2.2.2.1, _, (rw_ hf).2.2.2.2, Better_spec ((hS hf).A.at i hi2).2 (hvy hf) (by omega) (hvx hf) (by omega) fun w64 hf1 => ?_⟩
  have hf := hf.t hf1
  intro w66
  have hf : Fr F0 w50 w66 := hf.t Fr.drew
  clear_value w66
  have px : ∀ {u}, Fr F0 w50 u -> PF u (zz i s0 t0) (zz i s1 t1) (zz i s2 t2) rx (zz i p q) x := fun hu => ⟨((hS hu).A.at i hi2).2, hvx hu, by omega⟩
  have py : ∀ {u}, Fr F0 w50 u -> PF u (zz i s0 t0) (zz i s1 t1) (zz i s2 t2) ry (zz i p q) y := fun hu => ⟨((hS hu).A.at i hi2).2, hvy hu, by omega⟩
  have pm : ∀ {u}, Fr F0 w50 u -> PF u (zz i s0 t0) (zz i s1 t1) (zz i s2 t2) m0 (zz i p q) y0 := fun hu => ⟨((hS hu).A.at i hi2).2, (hS hu).v0, by omega⟩
  refine ⟨fun u => BtL u ab al s0 s1 s2 p t0 t1 t2 q mb m0 m1 y0 y1, hS hf, ⟨by omega, by omega⟩, _, fun u hu => (hu.A.at i hi2).1.1, _, fun u hu => (hu.A.at i hi2).1.2.1, _, fun u hu => (hu.A.at i hi2).1.2.2.1, _, fun u hu => (hu.A.at i hi2).1.2.2.2.1, _, fun u hu => (hu.A.at i hi2).1.2.2.2.2, refBetter_spec (px hf) (py hf) fun w73 hf1 => ⟨hS (hf.t hf1), cnd_iff.2 ⟨fun h => ?_, fun _ => ?_⟩⟩⟩
  . simp at h
  have hf := hf.t hf1
  refine ⟨⟨by omega, by omega⟩, _, fun u hu => (hu.A.at i hi2).1.1, _, fun u hu => (hu.A.at i hi2).1.2.1, _, fun u hu => (hu.A.at i hi2).1.2.2.1, _, fun u hu => (hu.A.at i hi2).1.2.2.2.1, _, fun u hu => (hu.A.at i hi2).1.2.2.2.2, refBetter_spec (py hf) (px hf) fun w80 hf1 => ⟨hS (hf.t hf1), cnd_iff.2 ⟨fun h => ?_, fun _ => ?_⟩⟩⟩
  . simp at h
  have hf := hf.t hf1
  refine ⟨⟨by omega, by omega⟩, _, fun u hu => (hu.A.at i hi2).1.1, _, fun u hu => (hu.A.at i hi2).1.2.1, _, fun u hu => (hu.A.at i hi2).1.2.2.1, _, fun u hu => (hu.A.at i hi2).1.2.2.2.1, _, fun u hu => (hu.A.at i hi2).1.2.2.2.2, ⟨by omega, by omega⟩, m0, fun u hu => hu.row.at rfl,
    ⟨by omega, by omega⟩, _, fun u hu => (hu.A.at i hi2).1.1, _, fun u hu => (hu.A.at i hi2).1.2.1, _, fun u hu => (hu.A.at i hi2).1.2.2.1, _, fun u hu => (hu.A.at i hi2).1.2.2.2.1, _, fun u hu => (hu.A.at i hi2).1.2.2.2.2, ⟨by omega, by omega⟩, m0, fun u hu => hu.row.at rfl, ?_⟩
  refine Better_spec ((hS hf).A.at i hi2).2 (hvx hf) (by omega) (hS hf).v0 hl0 fun w94 hf1 => ⟨hS (hf.t hf1), ?_⟩
  have hf := hf.t hf1
  refine refBetter_spec (px hf) (pm hf) fun w96 hf1 => ⟨hS (hf.t hf1), cnd_iff.2 ⟨fun h => ?_, fun _ => ?_⟩⟩
  . simp at h
  have hf := hf.t hf1
  have hN : ∀ {u}, Fr F0 w50 u -> ∀ w', Fr F0 u w' -> (((⟨mb, 0, none⟩ : Addr) = ⟨mb, 0, none⟩ /\ true = true /\ (⟨al, 0, none⟩ : Addr) = ⟨al, 0, none⟩ /\ True) /\ ∃ i' : Nat, (i : Int) + 1 = i' /\ i' <= 2 /\ Fr F0 w w') /\ 2 - ((i : Int) + 1).toNat < 2 - (i : Int).toNat := fun hu w' hw => ⟨⟨⟨rfl, rfl, rfl, trivial⟩, i + 1, by omega, by omega, hf50.t (hu.t hw)⟩, by omega⟩
  refine ⟨⟨by omega, by omega⟩, _, (rw_ hf).1, _, (rw_ hf).2.1, _, (rw_ hf).2.2.1, _, (rw_ hf).2.2.2.1, _, (rw_ hf).2.2.2.2, refPermitted_spec (px hf) fun w103 hf1 => cnd_iff.2 ⟨fun hpx => ?_, fun _ => LBetter_k2 hi2 (hvx (hf.t hf1)) (hvy (hf.t hf1)) (by omega) (fun h => by cases h) (hN (hf.t hf1))⟩⟩
  have hf := hf.t hf1
  refine ⟨⟨by omega, by omega⟩, _, (rw_ hf).1, _, (rw_ hf).2.1, _, (rw_ hf).2.2.1, _, (rw_ hf).2.2.2.1, _, (rw_ hf).2.2.2.2, refPermitted_spec (py hf) fun w110 hf1 => ?_⟩
  obtain ⟨g1, g2⟩ := Bool.and_eq_true_iff.1 hpx
  exact LBetter_k2 hi2 (hvx (hf.t hf1)) (hvy (hf.t hf1)) (by omega) (fun h => betterR_two g1 g2 (Bool.and_eq_true_iff.1 h).2) (hN (hf.t hf1))
theorem Better_law {a b c : Int} {K : Bool -> World -> Prop} (hv : VI w s l) (hl : l.length < 2 ^ 63) (h0 : VI w m0 y0) (l0 : y0.length < 2 ^ 63) (h1 : VI w m1 y1) (_ : y1.length < 2 ^ 63) (hK : ∀ w', Fr F0 w w' -> K true w') : probitylaw21_CombineBetter_sh s a b c m0 m1 K w := by
  have hp := madeP_right l
  refine ⟨?_⟩
  unfold probitylaw21_CombineBetter_sd
  intro w1
  have m : Mem w w1 _ := Mem.nil.allocL (cs := [.int .i64 a, .int .i64 b, .int .i64 c])
  clear_value w1
  intro wm
  have m : Mem w wm _ := m.allocL (cs := [.slice m0.p m0.l m0.c, .slice m1.p m1.l m1.c])
  clear_value wm
  refine sanity_spec fun w2 hf => ?_
  have m := m.fr hf
  refine Made_spec (hv.fr m.1) hl fun w4 s0 s1 s2 hf hP => ?_
  have m := m.fr hf
  have hf0 := m.1
  have hA := m.row 1 rfl
  have hA2 := m.row 0 rfl
  refine stN_new (w0 := w4) (l := []) rfl Mem.nil fun w7 m => ?_
  intro w8
  have m : Mem w4 w8 _ := m.drew
  clear_value w8
  have hS : ∀ {u}, Fr F0 w8 u -> (Row u w4.heap.size (prC s0 s1 s2 (madeP l).most (madeP l).budget) /\ Row u w.heap.size [.int .i64 a, .int .i64 b, .int .i64 c]) /\ PV u s0 s1 s2 (madeP l) := fun hu => ⟨⟨hu.row (m.row 0 rfl) fun h => h, (m.1.t hu).row hA fun h => h⟩, hP.fr (m.1.t hu)⟩
  have h08 := fun {u} (hu : Fr F0 w8 u) => h0.fr (hf0.t (m.1.t hu))
  have h18 := fun {u} (hu : Fr F0 w8 u) => h1.fr (hf0.t (m.1.t hu))
  have hr8 := fun {u} (hu : Fr F0 w8 u) => (m.1.t hu).row hA2 fun h => h
  have hK8 : ∀ u, Fr F0 w8 u -> K true u := fun u hu => hK u (hf0.t (m.1.t hu))
  refine ⟨fun u => (Row u w4.heap.size (prC s0 s1 s2 (madeP l).most (madeP l).budget) /\ Row u w.heap.size [.int .i64 a, .int .i64 b, .int .i64 c]) /\ PV u s0 s1 s2 (madeP l), hS Fr.refl, s0, fun u hu => hu.1.1.at rfl, s1, fun u hu => hu.1.1.at rfl, s2, fun u hu => hu.1.1.at rfl, _, fun u hu => hu.1.1.at rfl, _, fun u hu => hu.1.1.at rfl,
    s0, fun u hu => hu.1.1.at rfl, s1, fun u hu => hu.1.1.at rfl, s2, fun u hu => hu.1.1.at rfl, _, fun u hu => hu.1.1.at rfl, _, fun u hu => hu.1.1.at rfl, _, fun u hu => hu.1.2.at rfl, _, fun u hu => hu.1.2.at rfl, _, fun u hu => hu.1.2.at rfl, ?_, ?_⟩
  . refine Spoiled_spec hp (hS Fr.refl).2 fun w23 t0 t1 t2 q hf1 hQ => ⟨hS hf1, ?_⟩
    intro w25
    have m2 : Mem w23 w25 _ := Mem.nil.allocL (cs := [.slice none 0 0, .slice none 0 0, .slice none 0 0, .int .i64 0, .int .i64 0, .slice none 0 0, .slice none 0 0, .slice none 0 0, .int .i64 0, .int .i64 0])
    clear_value w25
    refine ⟨hS (hf1.t m2.1), stN_at m2 0 rfl rfl fun w26 m2 => ?_⟩
    have hf2 := hf1.t m2.1
    exact LBetter_k0 ⟨⟨(hS hf2).1.1, m2.row 0 rfl, (hS hf2).2, hQ.fr m2.1⟩, hr8 hf2, h08 hf2, h18 hf2⟩ l0 fun w' hw => hK8 w' (hf2.t hw)
  . intro w27
    have m2 : Mem w8 w27 _ := Mem.nil.allocL (cs := [.slice none 0 0, .slice none 0 0, .slice none 0 0, .int .i64 0, .int .i64 0, .slice none 0 0, .slice none 0 0, .slice none 0 0, .int .i64 0, .int .i64 0])
    have hsz : w27.heap.size = w8.heap.size + 1 := by simp [w27]
    clear_value w27
    refine ⟨hS m2.1, Spoiled_apart hp (hS Fr.refl).2 m2.1 fun w28 t0 t1 t2 q hf1 hQ => ⟨hS (m2.1.t hf1), ?_⟩⟩
    have m2 := m2.fr hf1
    refine stN_far m2 0 rfl rfl fun w30 m3 hfar => ?_
    have hf2 := m3.1
    exact LBetter_k0 ⟨⟨(hS hf2).1.1, m3.row 0 rfl, (hS hf2).2, hQ w30 hf2 fun b hb => hfar b (by omega)⟩, hr8 hf2, h08 hf2, h18 hf2⟩ l0 fun w' hw => hK8 w' (hf2.t hw)
end
end Go.Proofs.YtmkjcheafdionaaGreat
