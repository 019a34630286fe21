/- CombinePaid. Conditions: none. -/
import Derived.Test.YtmkjcheafdionaaGreatCL1
import Derived.Test.YtmkjcheafdionaaGreatCDY
import Derived.Test.YtmkjcheafdionaaGreatCEC
namespace Go.Proofs.YtmkjcheafdionaaGreat
open Go Pw
def zz {α : Type} (i : Nat) (a b : α) : α := if i = 0 then a else b
def z3 {α : Type} (i : Nat) (a b c : α) : α := if i = 0 then a else if i = 1 then b else c
section
variable {w w' : World} {s s0 s1 s2 t0 t1 t2 r0 r1 r2 sm : Sl} {p q : Pr} {x0 x1 x2 l : List Int} {ab al lb : Nat}
structure AL (u : World) (ab al : Nat) (s0 s1 s2 : Sl) (p : Pr) (t0 t1 t2 : Sl) (q : Pr) : Prop where
  a : Row u ab (prC s0 s1 s2 p.most p.budget)
  al : Row u al (prC s0 s1 s2 p.most p.budget ++ prC t0 t1 t2 q.most q.budget)
  P : PV u s0 s1 s2 p
  Q : PV u t0 t1 t2 q
theorem AL.fr (h : AL w ab al s0 s1 s2 p t0 t1 t2 q) (hf : Fr F0 w w') : AL w' ab al s0 s1 s2 p t0 t1 t2 q :=
  ⟨hf.row h.a fun h => h, hf.row h.al fun h => h, h.P.fr hf, h.Q.fr hf⟩
theorem AL.at (h : AL w ab al s0 s1 s2 p t0 t1 t2 q) (i : Nat) (hi : i < 2) :
    (w.cell? ((⟨al, 0, none⟩ : Addr).add ((i : Int).toNat * 5)) = some (Value.slice (zz i s0 t0).p (zz i s0 t0).l (zz i s0 t0).c) /\
    w.cell? (((⟨al, 0, none⟩ : Addr).add ((i : Int).toNat * 5)).add 1) = some (Value.slice (zz i s1 t1).p (zz i s1 t1).l (zz i s1 t1).c) /\
    w.cell? (((⟨al, 0, none⟩ : Addr).add ((i : Int).toNat * 5)).add 2) = some (Value.slice (zz i s2 t2).p (zz i s2 t2).l (zz i s2 t2).c) /\
    w.cell? (((⟨al, 0, none⟩ : Addr).add ((i : Int).toNat * 5)).add 3) = some (Value.int .i64 (zz i p q).most) /\
    w.cell? (((⟨al, 0, none⟩ : Addr).add ((i : Int).toNat * 5)).add 4) = some (Value.int .i64 (zz i p q).budget)) /\
    PV w (zz i s0 t0) (zz i s1 t1) (zz i s2 t2) (zz i p q) := by
  rcases (show i = 0 \/ i = 1 by omega) with rfl | rfl
  . exact ⟨⟨h.al.at rfl, h.al.at rfl, h.al.at rfl, h.al.at rfl, h.al.at rfl⟩, h.P⟩
  . exact ⟨⟨h.al.at rfl, h.al.at rfl, h.al.at rfl, h.al.at rfl, h.al.at rfl⟩, h.Q⟩
structure LR (u : World) (lb : Nat) (r0 r1 r2 : Sl) (x0 x1 x2 : List Int) : Prop where
  row : Row u lb [.slice r0.p r0.l r0.c, .slice r1.p r1.l r1.c, .slice r2.p r2.l r2.c]
  v0 : VI u r0 x0
  v1 : VI u r1 x1
  v2 : VI u r2 x2
  l0 : x0.length < 2 ^ 63
  l1 : x1.length < 2 ^ 63
  l2 : x2.length < 2 ^ 63
theorem LR.fr (h : LR w lb r0 r1 r2 x0 x1 x2) (hf : Fr F0 w w') : LR w' lb r0 r1 r2 x0 x1 x2 :=
  ⟨hf.row h.row fun h => h, h.v0.fr hf, h.v1.fr hf, h.v2.fr hf, h.l0, h.l1, h.l2⟩
theorem LR.at (h : LR w lb r0 r1 r2 x0 x1 x2) (k : Nat) (hk : k < 3) :
    w.cell? ((⟨lb, 0, none⟩ : Addr).add ((k : Int).toNat * 1)) = some (Value.slice (z3 k r0 r1 r2).p (z3 k r0 r1 r2).l (z3 k r0 r1 r2).c) /\ VI w (z3 k r0 r1 r2) (z3 k x0 x1 x2) /\ (z3 k x0 x1 x2).length < 2 ^ 63 := by
  rcases (show k = 0 \/ k = 1 \/ k = 2 by omega) with rfl | rfl | rfl
  . exact ⟨h.row.at rfl, h.v0, h.l0⟩
  . exact ⟨h.row.at rfl, h.v1, h.l1⟩
  . exact ⟨h.row.at rfl, h.v2, h.l2⟩
theorem Paid_k2 {i : Nat} {N1 : Sl -> Bool -> Addr -> Addr -> Int -> World -> Prop} {K : Bool -> World -> Prop} (hi : i < 2) (hA : AL w ab al s0 s1 s2 p t0 t1 t2 q) (hL : LR w lb r0 r1 r2 x0 x1 x2)
    (hN : ∀ w', Fr F0 w w' -> N1 sm true ⟨ab, 0, none⟩ ⟨al, 0, none⟩ ((i : Int) + 1) w') : probitylaw21_CombinePaid_k2 sm true ⟨ab, 0, none⟩ ⟨al, 0, none⟩ i ⟨lb, 0, none⟩ N1 K w := by
  refine ⟨?_⟩
  unfold probitylaw21_CombinePaid_k2d
  refine ⟨⟨fun k w' => ∃ k' : Nat, k = k' /\ k' <= 3 /\ Fr F0 w w', fun k _ => 3 - k.toNat, ⟨0, rfl, by omega, Fr.refl⟩, ?_⟩⟩
  rintro k w1 ⟨k, rfl, hk, hf⟩
  unfold probitylaw21_CombinePaid_b3
  refine cnd_prop.2 ⟨fun hlt => ?_, fun _ => ⟨inR64 (by omega) (by omega), hN w1 hf⟩⟩
  have hk3 : k < 3 := by omega
  have hS : ∀ {u}, Fr F0 w u -> AL u ab al s0 s1 s2 p t0 t1 t2 q /\ LR u lb r0 r1 r2 x0 x1 x2 := fun hu => ⟨hA.fr hu, hL.fr hu⟩
  intro w59
  have hf : Fr F0 w w59 := hf.t Fr.drew
  clear_value w59
  refine ⟨fun u => AL u ab al s0 s1 s2 p t0 t1 t2 q /\ LR u lb r0 r1 r2 x0 x1 x2, hS hf, ⟨by omega, by omega⟩, _, fun u hu => (hu.1.at i hi).1.1, _, fun u hu => (hu.1.at i hi).1.2.1, _, fun u hu => (hu.1.at i hi).1.2.2.1, _, fun u hu => (hu.1.at i hi).1.2.2.2.1, _, fun u hu => (hu.1.at i hi).1.2.2.2.2, ⟨by omega, by omega⟩, _, fun u hu => (hu.2.at k hk3).1, ?_⟩
  refine Paid_spec ((hS hf).1.at i hi).2 ((hS hf).2.at k hk3).2.1 ((hS hf).2.at k hk3).2.2 fun w67 hf1 => ?_
  have hf := hf.t hf1
  intro w70
  have hf : Fr F0 w w70 := hf.t Fr.drew
  clear_value w70
  refine ⟨fun u => AL u ab al s0 s1 s2 p t0 t1 t2 q /\ LR u lb r0 r1 r2 x0 x1 x2, hS hf, ⟨by omega, by omega⟩, _, fun u hu => (hu.1.at i hi).1.1, _, fun u hu => (hu.1.at i hi).1.2.1, _, fun u hu => (hu.1.at i hi).1.2.2.1, _, fun u hu => (hu.1.at i hi).1.2.2.2.1, _, fun u hu => (hu.1.at i hi).1.2.2.2.2, ⟨by omega, by omega⟩, _, fun u hu => (hu.2.at k hk3).1, ?_⟩
  refine refPaid_spec ⟨((hS hf).1.at i hi).2, ((hS hf).2.at k hk3).2.1, ((hS hf).2.at k hk3).2.2⟩ fun w78 hf1 => ?_
  have hf := hf.t hf1
  intro w81
  have hf : Fr F0 w w81 := hf.t Fr.drew
  clear_value w81
  refine ⟨fun u => AL u ab al s0 s1 s2 p t0 t1 t2 q /\ LR u lb r0 r1 r2 x0 x1 x2, hS hf, cnd_bne.2 ⟨fun h => absurd rfl h, fun _ => cnd_iff.2 ⟨fun h => ?_, fun _ => ?_⟩⟩⟩
  . simp at h
  refine ⟨⟨by omega, by omega⟩, _, fun u hu => (hu.1.at i hi).1.1, _, fun u hu => (hu.1.at i hi).1.2.1, _, fun u hu => (hu.1.at i hi).1.2.2.1, _, fun u hu => (hu.1.at i hi).1.2.2.2.1, _, fun u hu => (hu.1.at i hi).1.2.2.2.2, ⟨by omega, by omega⟩, _, fun u hu => (hu.2.at k hk3).1,
    ⟨by omega, by omega⟩, _, fun u hu => (hu.1.at i hi).1.1, _, fun u hu => (hu.1.at i hi).1.2.1, _, fun u hu => (hu.1.at i hi).1.2.2.1, _, fun u hu => (hu.1.at i hi).1.2.2.2.1, _, fun u hu => (hu.1.at i hi).1.2.2.2.2, ⟨by omega, by omega⟩, _, fun u hu => (hu.2.at k hk3).1, ?_⟩
  refine Points_spec ((hS hf).1.at i hi).2 ((hS hf).2.at k hk3).2.1 ((hS hf).2.at k hk3).2.2 fun w95 hf1 => ⟨hS (hf.t hf1), ?_⟩
  have hf := hf.t hf1
  refine refPoints_spec ⟨((hS hf).1.at i hi).2, ((hS hf).2.at k hk3).2.1, ((hS hf).2.at k hk3).2.2⟩ fun w97 hf1 => ⟨hS (hf.t hf1), ?_⟩
  exact cnd_bne.2 ⟨fun h => absurd rfl h, fun _ => ⟨inR64 (by omega) (by omega), ⟨⟨rfl, rfl, rfl, rfl, rfl, rfl, trivial⟩, k + 1, by omega, by omega, hf.t hf1⟩, by dsimp only; omega⟩⟩
theorem Paid_k0 {K : Bool -> World -> Prop} (hA : AL w ab al s0 s1 s2 p t0 t1 t2 q) (hm : VI w sm l) (hK : ∀ w', Fr F0 w w' -> K true w') : probitylaw21_CombinePaid_k0 sm true ⟨ab, 0, none⟩ ⟨al, 0, none⟩ K w := by
  have em := hm.len
  have ec := hm.cap
  refine ⟨?_⟩
  unfold probitylaw21_CombinePaid_k0d
  refine ⟨⟨fun i w' => ∃ i' : Nat, i = i' /\ i' <= 2 /\ Fr F0 w w', fun i _ => 2 - i.toNat, ⟨0, rfl, by omega, Fr.refl⟩, ?_⟩⟩
  rintro i w1 ⟨i, rfl, hi, hf⟩
  unfold probitylaw21_CombinePaid_b1
  refine cnd_prop.2 ⟨fun hlt => ?_, fun _ => hK w1 hf⟩
  have hi2 : i < 2 := by omega
  intro w31
  have hf : Fr F0 w w31 := hf.t Fr.drew
  clear_value w31
  have hS : ∀ {u}, Fr F0 w31 u -> AL u ab al s0 s1 s2 p t0 t1 t2 q := fun hu => hA.fr (hf.t hu)
  have hj : (min (sm.l : Int) 5).toNat <= l.length := by omega
  have hfin : ∀ {u : World} {b : Nat} {ra rb : Sl} {xa xb : List Int} {B : Nat -> Prop}, Sp w31 u [(b, [.slice ra.p ra.l ra.c, .slice rb.p rb.l rb.c, .slice (subP sm.p 0 sm.c 1) ((min (sm.l : Int) 5).toNat - 0) (sm.c - 0)])] B (fun u => True /\ Ow 1 (ie .i64 (id : Int -> Int)) u ra xa) 1 (ie .i64 (id : Int -> Int)) rb xb -> xa.length <= 13 -> xb.length <= 13 -> _ :=
    fun {u b ra rb xa xb B} h g0 g1 => Paid_k2 (K := K) (sm := sm) (i := i) (N1 := fun a b c d e w' => ((a = sm /\ b = true /\ c = ⟨ab, 0, none⟩ /\ d = ⟨al, 0, none⟩ /\ True) /\ ∃ i' : Nat, e = i' /\ i' <= 2 /\ Fr F0 w w') /\ 2 - e.toNat < 2 - (i : Int).toNat) hi2 (hS h.m.1) ⟨h.row 0 rfl, h.q.2.vw, h.ow.vw, (hm.fr (hf.t h.m.1)).take (fun a => ie_length _ _ a) hj, by omega, by omega, by simp; omega⟩
      fun w' hw => ⟨⟨⟨rfl, rfl, rfl, rfl, trivial⟩, i + 1, by omega, by omega, (hf.t h.m.1).t hw⟩, by omega⟩
  refine ⟨fun u => AL u ab al s0 s1 s2 p t0 t1 t2 q, hS Fr.refl, ⟨by omega, by omega⟩, _, fun u hu => (hu.at i hi2).1.1, _, fun u hu => (hu.at i hi2).1.2.1, _, fun u hu => (hu.at i hi2).1.2.2.1, _, fun u hu => (hu.at i hi2).1.2.2.2.1, _, fun u hu => (hu.at i hi2).1.2.2.2.2,
    s0, fun u hu => hu.a.at rfl, s1, fun u hu => hu.a.at rfl, s2, fun u hu => hu.a.at rfl, _, fun u hu => hu.a.at rfl, _, fun u hu => hu.a.at rfl, ⟨by omega, by omega, by omega⟩, ?_, ?_⟩
  . refine list_spec ((hS Fr.refl).at i hi2).2 (hm.fr hf) fun w43 ra xa va ga => ?_
    have h := Sp.ofMk Mem.nil va
    refine ⟨hS h.m.1, ?_, ?_⟩
    . refine list_spec (hS h.m.1).P (hm.fr (hf.t h.m.1)) fun w45 rb xb vb gb => ?_
      have h := h.nextMk vb
      refine ⟨hS h.m.1, ?_⟩
      intro w47
      have h : Sp w31 w47 _ _ _ _ _ _ _ := h.allocL (vs := [.slice none 0 0, .slice none 0 0, .slice none 0 0])
      clear_value w47
      exact ⟨hS h.m.1, stN_sp h 0 rfl rfl fun w48 h => hfin h ga gb⟩
    . intro w49
      have h : Sp w31 w49 _ _ _ _ _ _ _ := h.allocL (vs := [.slice none 0 0, .slice none 0 0, .slice none 0 0])
      clear_value w49
      refine ⟨hS h.m.1, list_spec (hS h.m.1).P (hm.fr (hf.t h.m.1)) fun w45 rb xb vb gb => ?_⟩
      have h := h.nextMk vb
      exact ⟨hS h.m.1, stN_sp h 0 rfl rfl fun w48 h => hfin h ga gb⟩
  . intro w53
    have m : Mem w31 w53 _ := Mem.nil.allocL (cs := [.slice none 0 0, .slice none 0 0, .slice none 0 0])
    clear_value w53
    refine ⟨hS m.1, list_spec ((hS m.1).at i hi2).2 (hm.fr (hf.t m.1)) fun w43 ra xa va ga => ?_⟩
    have h := Sp.ofMk m va
    refine ⟨hS h.m.1, list_spec (hS h.m.1).P (hm.fr (hf.t h.m.1)) fun w45 rb xb vb gb => ?_⟩
    have h := h.nextMk vb
    exact ⟨hS h.m.1, stN_sp h 0 rfl rfl fun w48 h => hfin h ga gb⟩
theorem Paid_law {a b c : Int} {K : Bool -> World -> Prop} (hv : VI w s l) (hl : l.length < 2 ^ 63) (hm : VI w sm x0) (_ : x0.length < 2 ^ 63) (hK : ∀ w', Fr F0 w w' -> K true w') : probitylaw21_CombinePaid_sh s a b c sm K w := by
  have hp := madeP_right l
  refine ⟨?_⟩
  unfold probitylaw21_CombinePaid_sd
  intro w1
  have m : Mem w w1 _ := Mem.nil.allocL (cs := [.int .i64 a, .int .i64 b, .int .i64 c])
  clear_value w1
  refine sanity_spec fun w2 hf => ?_
  have m := m.fr hf
  refine Made_spec (hv.fr m.1) hl fun w4 s0 s1 s2 hf hP => ?_
  have m := m.fr hf
  have hf0 := m.1
  have hA := m.row 0 rfl
  refine stN_new (w0 := w4) (l := []) rfl Mem.nil fun w7 m => ?_
  intro w8
  have m : Mem w4 w8 _ := m.drew
  clear_value w8
  have hS : ∀ {u}, Fr F0 w8 u -> (Row u w4.heap.size (prC s0 s1 s2 (madeP l).most (madeP l).budget) /\ Row u w.heap.size [.int .i64 a, .int .i64 b, .int .i64 c]) /\ PV u s0 s1 s2 (madeP l) := fun hu => ⟨⟨hu.row (m.row 0 rfl) fun h => h, (m.1.t hu).row hA fun h => h⟩, hP.fr (m.1.t hu)⟩
  have hm8 := fun {u} (hu : Fr F0 w8 u) => hm.fr (hf0.t (m.1.t hu))
  have hK8 : ∀ u, Fr F0 w8 u -> K true u := fun u hu => hK u (hf0.t (m.1.t hu))
  refine ⟨fun u => (Row u w4.heap.size (prC s0 s1 s2 (madeP l).most (madeP l).budget) /\ Row u w.heap.size [.int .i64 a, .int .i64 b, .int .i64 c]) /\ PV u s0 s1 s2 (madeP l), hS Fr.refl, s0, fun u hu => hu.1.1.at rfl, s1, fun u hu => hu.1.1.at rfl, s2, fun u hu => hu.1.1.at rfl, _, fun u hu => hu.1.1.at rfl, _, fun u hu => hu.1.1.at rfl,
    s0, fun u hu => hu.1.1.at rfl, s1, fun u hu => hu.1.1.at rfl, s2, fun u hu => hu.1.1.at rfl, _, fun u hu => hu.1.1.at rfl, _, fun u hu => hu.1.1.at rfl, _, fun u hu => hu.1.2.at rfl, _, fun u hu => hu.1.2.at rfl, _, fun u hu => hu.1.2.at rfl, ?_, ?_⟩
  . refine Spoiled_spec hp (hS Fr.refl).2 fun w23 t0 t1 t2 q hf1 hQ => ⟨hS hf1, ?_⟩
    intro w25
    have m2 : Mem w23 w25 _ := Mem.nil.allocL (cs := [.slice none 0 0, .slice none 0 0, .slice none 0 0, .int .i64 0, .int .i64 0, .slice none 0 0, .slice none 0 0, .slice none 0 0, .int .i64 0, .int .i64 0])
    clear_value w25
    refine ⟨hS (hf1.t m2.1), stN_at m2 0 rfl rfl fun w26 m2 => ?_⟩
    have hf2 := hf1.t m2.1
    exact Paid_k0 ⟨(hS hf2).1.1, m2.row 0 rfl, (hS hf2).2, hQ.fr m2.1⟩ (hm8 hf2) fun w' hw => hK8 w' (hf2.t hw)
  . intro w27
    have m2 : Mem w8 w27 _ := Mem.nil.allocL (cs := [.slice none 0 0, .slice none 0 0, .slice none 0 0, .int .i64 0, .int .i64 0, .slice none 0 0, .slice none 0 0, .slice none 0 0, .int .i64 0, .int .i64 0])
    have hsz : w27.heap.size = w8.heap.size + 1 := by simp [w27]
    clear_value w27
    refine ⟨hS m2.1, Spoiled_apart hp (hS Fr.refl).2 m2.1 fun w28 t0 t1 t2 q hf1 hQ => ⟨hS (m2.1.t hf1), ?_⟩⟩
    have m2 := m2.fr hf1
    refine stN_far m2 0 rfl rfl fun w30 m3 hfar => ?_
    have hf2 := m3.1
    exact Paid_k0 ⟨(hS hf2).1.1, m3.row 0 rfl, (hS hf2).2, hQ w30 hf2 fun b hb => hfar b (by omega)⟩ (hm8 hf2) fun w' hw => hK8 w' (hf2.t hw)
end
end Go.Proofs.YtmkjcheafdionaaGreat
