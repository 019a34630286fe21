/- A result by numbers, and ProofLies. Conditions: none. -/
import Derived.Test.YtfpobpjandjhjaaGreatDoorPXZ
import Derived.Test.YtfpobpjandjhjaaGreatDoorPG5
import Derived.Test.YtfpobpjandjhjaaGreatDoorPXY
import Derived.Deep.Slices
import Derived.ChangeArms
namespace Go.Proofs.YtfpobpjandjhjaaGreatDoor
open Go Pw
structure LieV (w : World) (a : Sl) (T : List Int) (u v : Int) (b : Sl) (N : List Nd) : Prop where
 tk : VI w a T
 tl : T.length * 8 <= 140737488351232
 nds : NV w b N
 ti : ∀ n ∈ T, I64 n
 ui : I64 u
 vi : I64 v
 ni : ∀ x ∈ N, I64 x.lot /\ (∀ n ∈ x.next, I64 n) /\ x.next.length * 8 <= 140737488351232
theorem LieV.fr {w w' : World} {a b : Sl} {T : List Int} {u v : Int} {N : List Nd} (h : LieV w a T u v b N) (hf : Fr F0 w w') : LieV w' a T u v b N := { h with tk := h.tk.fr hf, nds := h.nds.fr hf }
section
variable {w w' w0 : World} {s s0 s1 s2 s5 a b : Sl} {p : Pr} {l T : List Int} {x1 x2 : Int} {N : List Nd}
theorem NV.ldV {i : Int} {K : Addr -> Prop} {w : World} (h : NV w0 s N) (hf : Fr F0 w0 w) (i' : Nat) (hi : i = (i' : Int)) (h1 : i' < N.length)
  (hK : ∀ (ad : Addr) (c : NdC), NdV w0 c N[i'] -> (w.cell? (ad.add (i.toNat * 4)) = some (.int .i64 c.lot) /\ w.cell? ((ad.add (i.toNat * 4)).add 1) = some (.int .i64 c.num) /\ w.cell? ((ad.add (i.toNat * 4)).add 2) = some (.int .i64 c.den) /\ w.cell? ((ad.add (i.toNat * 4)).add 3) = some (.slice c.nx.p c.nx.l c.nx.c)) -> K ad) :
  nz s.p fun a => (0 <= i /\ i < (s.l : Nat)) /\ K a := by
 subst hi
 have hl := h.len
 obtain ⟨⟨cs, hv, hcl, hn⟩, _⟩ := h
 have h2 : i' < cs.length := by omega
 obtain ⟨ad, hp, hc⟩ := (hv.fr hf).at (fun a => encN_length a) (List.getElem?_eq_getElem h2) (by decide)
 rw [hp]
 exact ⟨⟨by omega, by omega⟩, hK _ cs[i'] (hn i' _ _ (List.getElem?_eq_getElem h2) (List.getElem?_eq_getElem h1)) ⟨hc 0 _ rfl, hc 1 _ rfl, hc 2 _ rfl, hc 3 _ rfl⟩⟩
theorem result_spec {K : Sl -> Int -> Int -> Sl -> World -> Prop} (hx : LieV w a T x1 x2 b N) (hK : ∀ w' ns, Fr F0 w w' -> NV w' ns (N.take 20) -> K a x1 x2 ns w') : z0b_sh a x1 x2 b K w := by
 have hN := hx.nds
 have en := hN.len
 have hNl := hN.lt
 refine ⟨?_⟩
 unfold z0b_sd
 intro w1
 have m : Mem w w1 _ := Mem.nil.allocL (cs := rsC a x1 x2 b)
 clear_value w1
 intro w2
 have m : Mem w w2 [(w1.heap.size, rsC ⟨none, 0, 0⟩ 0 0 ⟨none, 0, 0⟩), (w.heap.size, rsC a x1 x2 b)] := m.allocL (cs := rsC ⟨none, 0, 0⟩ 0 0 ⟨none, 0, 0⟩)
 clear_value w2
 refine ⟨a, m.ld 1 rfl rfl, _, m.ld 1 rfl rfl, _, m.ld 1 rfl rfl, ?_⟩
 refine stN_new rfl m fun w7 m => ?_
 have m : Mem w w7 [(w2.heap.size, rsC a x1 x2 ⟨none, 0, 0⟩), (w1.heap.size, rsC ⟨none, 0, 0⟩ 0 0 ⟨none, 0, 0⟩), (w.heap.size, rsC a x1 x2 b)] := m
 have h : Sp w w7 _ _ _ 4 encN ⟨none, 0, 0⟩ [] := Sp.start m
 refine ⟨⟨fun k u => ∃ (k' : Nat) (s : Sl) (cs : List NdC), k = k' /\ k' <= N.length /\ k' <= 20 /\ cs.length = k' /\ Sp w u [(w2.heap.size, rsC a x1 x2 s), (w1.heap.size, rsC ⟨none, 0, 0⟩ 0 0 ⟨none, 0, 0⟩), (w.heap.size, rsC a x1 x2 b)] (fun _ => False) (fun _ => True) 4 encN s cs /\
   (∀ (i : Nat) c n, cs[i]? = some c -> N[i]? = some n -> NdV w c n), fun k _ => N.length - k.toNat, ⟨0, ⟨none, 0, 0⟩, [], rfl, by omega, by omega, rfl, h, fun i c n hc => by simp at hc⟩, ?_⟩⟩
 clear h m
 rintro k u ⟨k, s, cs, rfl, hk, hk20, hcl, h, hc⟩
 have hend : (k = N.length \/ k = 20) -> z0b_k1 ⟨w1.heap.size, 0, none⟩ ⟨w2.heap.size, 0, none⟩ K u := fun he => by
  refine ⟨?_⟩
  unfold z0b_k1d
  refine ⟨a, h.ld 0 rfl rfl, _, h.ld 0 rfl rfl, _, h.ld 0 rfl rfl, s, h.ld 0 rfl rfl, stN_sp h 1 rfl rfl fun w30 h => ?_⟩
  simp only [List.set_cons_zero, List.set_cons_succ] at h
  refine ⟨a, h.ld 1 rfl rfl, _, h.ld 1 rfl rfl, _, h.ld 1 rfl rfl, s, h.ld 1 rfl rfl, hK w30 s h.m.1 ⟨⟨cs, h.ow.vw, by simp; omega, fun i c n hci hni => ?_⟩, by simp; omega⟩⟩
  have hni : N[i]? = some n := by
   rw [List.getElem?_take] at hni
   split at hni
   ·exact hni
   ·cases hni
  have := hc i c n hci hni
  exact ⟨this.1, this.2.1.fr h.m.1, this.2.2⟩
 unfold z0b_b0
 refine ⟨b, h.ld 2 rfl rfl, cnd_prop.2 ⟨fun hlt => cnd_prop.2 ⟨fun hlt2 => ?_, fun _ => hend (by omega)⟩, fun _ => hend (by omega)⟩⟩
 have hkN : k < N.length := by omega
 refine ⟨b, h.ld 2 rfl rfl, hN.ldV h.m.1 k rfl hkN fun ad c hcv hcc => ?_⟩
 obtain ⟨c0, c1, c2, c3⟩ := hcc
 refine ⟨_, c0, _, c1, _, c2, c.nx, c3, ?_⟩
 intro w15
 have h : Sp w w15 _ _ _ _ _ _ _ := h.allocL (vs := [.int .i64 0, .int .i64 0, .int .i64 0, .slice none 0 0])
 clear_value w15
 refine stN_sp h 0 rfl rfl fun w16 h => ?_
 simp only [List.set_cons_zero] at h
 refine ⟨s, h.ld 1 rfl rfl, _, h.ld 0 rfl rfl, ⟨by decide, by decide⟩, _, h.ld 0 (i := 1) rfl rfl, ⟨by decide, by decide⟩, _, h.ld 0 (i := 2) rfl rfl, c.nx, h.ld 0 rfl rfl, ?_⟩
 intro w22
 refine h.push (a := c) rfl rfl encN_ok rfl (by omega) (by omega) fun s23 w24 h => ?_
 refine ⟨h.wr 1 rfl rfl, ?_⟩
 intro w25
 have h := h.set (i := 3) (v := .slice s23.p s23.l s23.c) 1 rfl
 have h : Sp w w25 _ _ _ _ _ _ _ := h
 simp only [List.set_cons_zero, List.set_cons_succ] at h
 clear_value w25
 have h : Sp w w25 [(w2.heap.size, rsC a x1 x2 s23), (w1.heap.size, rsC ⟨none, 0, 0⟩ 0 0 ⟨none, 0, 0⟩), (w.heap.size, rsC a x1 x2 b)] _ _ 4 encN s23 _ := h.dr 1 rfl
 refine ⟨inR64 (by omega) (by omega), ⟨⟨rfl, rfl, rfl, trivial⟩, k + 1, s23, cs ++ [c], by omega, by omega, by omega, by simp [hcl], h, fun i c' n hci hni => ?_⟩, by dsimp only; omega⟩
 rcases Nat.lt_or_ge i cs.length with hi | hi
 ·rw [List.getElem?_append_left hi] at hci
  exact hc i c' n hci hni
 ·rw [List.getElem?_append_right hi] at hci
  have : i = k := by
   have := (List.getElem?_eq_some_iff.1 hci).1
   simp at this
   omega
  subst this
  rw [hcl, Nat.sub_self] at hci
  simp at hci
  subst hci
  rw [List.getElem?_eq_getElem hkN] at hni
  cases hni
  exact hcv
theorem Lies_law {K : Bool -> World -> Prop} (g : GlT w) (hv : VI w s l) (hl : l.length < 2 ^ 63) (hx : LieV w a T x1 x2 b N) (hK : ∀ w', Fr F0 w w' -> K true w') : z0f_sh s a x1 x2 b K w := by
 have hp := madeP_right l
 have htl := hx.tl
 refine ⟨?_⟩
 unfold z0f_sd
 intro w1
 have m : Mem w w1 _ := Mem.nil.allocL (cs := rsC a x1 x2 b)
 clear_value w1
 refine sanity_spec (g.fr m.1) fun w2 f2 => ?_
 have m := m.fr f2
 refine Made_spec (hv.fr m.1) hl fun w4 s0 s1 s2 f4 hP => ?_
 have m := m.fr f4
 have hq := m.row 0 rfl
 have hw4 := m.1
 clear m
 refine stN_new (w0 := w4) (l := []) rfl Mem.nil fun w7 m => ?_
 have hpr := m.row 0 rfl
 have hq7 := m.1.row hq fun h => h
 have hw7 := hw4.t m.1
 have hP7 := hP.fr m.1
 clear m
 refine ⟨a, hq7.at rfl, _, hq7.at rfl, _, hq7.at rfl, b, hq7.at rfl, result_spec (hx.fr hw7) fun w12 ns f12 hN => ?_⟩
 have hw12 := hw7.t f12
 have hpr := f12.row hpr fun h => h
 have hq12 := f12.row hq7 fun h => h
 have hP12 := hP7.fr f12
 have hx12 := hx.fr hw12
 have hK12 : ∀ u, Fr F0 w12 u -> K true u := fun u h => hK u (hw12.t h)
 refine stN_new (w0 := w12) (l := []) rfl Mem.nil fun w15 m => ?_
 refine ⟨a, m.ld 0 rfl rfl, _, m.ld 0 rfl rfl, _, m.ld 0 rfl rfl, ns, m.ld 0 rfl rfl, ?_⟩
 refine stN_new rfl m fun w21 m => ?_
 intro w22
 have m : Mem w12 w22 [(w15.heap.size, rsC a x1 x2 ns), (w12.heap.size, rsC a x1 x2 ns)] := m.drew
 clear_value w22
 have hsl22 : w15.heap.size < w22.heap.size := (m.row 0 rfl).lt
 have hS : ∀ {u}, Fr F0 w12 u -> Row u w4.heap.size (prC s0 s1 s2 (madeP l).most (madeP l).budget) /\ Row u w.heap.size (rsC a x1 x2 b) := fun h => ⟨h.row hpr fun h => h, h.row hq12 fun h => h⟩
 refine ⟨fun u => Row u w4.heap.size (prC s0 s1 s2 (madeP l).most (madeP l).budget) /\ Row u w.heap.size (rsC a x1 x2 b), hS m.1, s0, fun u hu => hu.1.at rfl, s1, fun u hu => hu.1.at rfl, s2, fun u hu => hu.1.at rfl, _, fun u hu => hu.1.at rfl, _, fun u hu => hu.1.at rfl, a, fun u hu => hu.2.at rfl, ?_⟩
 intro w30
 have h : Sp w22 w30 _ _ _ 1 (ie .i64 (id : Int -> Int)) _ _ := Sp.empty (fun a => ie_length _ _ a) Mem.nil
 clear_value w30
 have hm := h.mk''
 refine ⟨hS (m.1.t hm.fr0), hm.app (hx12.tk.fr (m.1.t hm.fr0)) (ie_ok _ _) rfl (by simp; omega) (by simp; omega) fun s31 w32 hm _ => ⟨hS (m.1.t hm.fr0), ?_⟩⟩
 rw [List.nil_append] at hm
 refine hm.appZ (z := (0 : Int)) (k := 12) rfl rfl (by omega) (by omega) fun s33 w34 hm => ⟨hS (m.1.t hm.fr0), ?_⟩
 have m := m.fr hm.fr0
 refine prefix22_mk hp (hP12.fr m.1) hm.vw fun w35 y T' hy hTl => ⟨hS (m.1.t hy.fr0), ?_⟩
 have m := m.fr hy.fr0
 have hyl := hy.nw
 have hsl : w15.heap.size < w34.heap.size := by
  have h1 := (hy.fr0.1 : w34.heap.size <= w35.heap.size)
  have h2 := hm.fr0.1
  omega
 refine ⟨m.wr 0 rfl rfl, ?_⟩
 intro w37
 have hv37 : VI w37 y T' := hy.vw.frF (Fr.set (F := fun c => c = w15.heap.size) rfl) fun b hb he => by have := hyl b hb; omega
 have m : Mem w12 w37 [(w15.heap.size, rsC y x1 x2 ns), (w12.heap.size, rsC a x1 x2 ns)] := m.set 0 rfl
 clear_value w37
 have hpr37 := m.1.row hpr fun h => h
 refine ⟨s0, hpr37.at rfl, s1, hpr37.at rfl, s2, hpr37.at rfl, _, hpr37.at rfl, _, hpr37.at rfl, y, m.ld 0 rfl rfl, refPoints_spec ⟨hP12.fr m.1, hv37, by omega⟩ fun w44 f44 => ?_⟩
 have m := m.fr f44
 have hv44 := hv37.fr f44
 have hy44 : ∀ b, inB y b -> b ≠ w15.heap.size := fun b hb he => by have := hyl b hb; omega
 generalize pointsR (madeP l) (rightB (madeP l)) (fitsB (madeP l) T') T' = pt at *
 refine ⟨m.wr 0 rfl rfl, ?_⟩
 intro w46
 have hv46 : VI w46 y T' := hv44.frF (Fr.set (F := fun c => c = w15.heap.size) rfl) hy44
 have m : Mem w12 w46 [(w15.heap.size, rsC y pt x2 ns), (w12.heap.size, rsC a x1 x2 ns)] := m.set 0 rfl
 clear_value w46
 refine ⟨_, m.ld 0 rfl rfl, m.wr 0 rfl rfl, ?_⟩
 intro w48
 have hv48 : VI w48 y T' := hv46.frF (Fr.set (F := fun c => c = w15.heap.size) rfl) hy44
 have m : Mem w12 w48 [(w15.heap.size, rsC y pt pt ns), (w12.heap.size, rsC a x1 x2 ns)] := m.set 0 rfl
 clear_value w48
 intro w49
 have hv49 : VI w49 y T' := hv48.fr Fr.drew
 have m : Mem w12 w49 [(w15.heap.size, rsC y pt pt ns), (w12.heap.size, rsC a x1 x2 ns)] := m.drew
 clear_value w49
 have hSS : ∀ {u}, Fr F0 w49 u -> Row u w4.heap.size (prC s0 s1 s2 (madeP l).most (madeP l).budget) /\ Row u w12.heap.size (rsC a x1 x2 ns) /\ Row u w15.heap.size (rsC y pt pt ns) := fun h => ⟨(m.1.t h).row hpr fun h => h, h.row (m.row 1 rfl) fun h => h, h.row (m.row 0 rfl) fun h => h⟩
 refine ⟨fun u => Row u w4.heap.size (prC s0 s1 s2 (madeP l).most (madeP l).budget) /\ Row u w12.heap.size (rsC a x1 x2 ns) /\ Row u w15.heap.size (rsC y pt pt ns), hSS Fr.refl, cnd_iff.2 ⟨fun _ => ?_, fun h => by cases h⟩⟩
 refine ⟨s0, fun u hu => hu.1.at rfl, s1, fun u hu => hu.1.at rfl, s2, fun u hu => hu.1.at rfl, _, fun u hu => hu.1.at rfl, _, fun u hu => hu.1.at rfl, a, fun u hu => hu.2.1.at rfl, _, fun u hu => hu.2.1.at rfl, _, fun u hu => hu.2.1.at rfl, ns, fun u hu => hu.2.1.at rfl,
  s0, fun u hu => hu.1.at rfl, s1, fun u hu => hu.1.at rfl, s2, fun u hu => hu.1.at rfl, _, fun u hu => hu.1.at rfl, _, fun u hu => hu.1.at rfl, a, fun u hu => hu.2.1.at rfl, _, fun u hu => hu.2.1.at rfl, _, fun u hu => hu.2.1.at rfl, ns, fun u hu => hu.2.1.at rfl, ?_⟩
 have hP49 : ∀ {u}, Fr F0 w49 u -> PV u s0 s1 s2 (madeP l) := fun h => hP12.fr (m.1.t h)
 have hT49 : ∀ {u}, Fr F0 w49 u -> VI u a T := fun h => hx12.tk.fr (m.1.t h)
 have hN49 : ∀ {u}, Fr F0 w49 u -> NV u ns (N.take 20) := fun h => hN.fr (m.1.t h)
 refine pCheck_spec (hP49 Fr.refl) (hT49 Fr.refl) (by omega) (hN49 Fr.refl) fun w69 f69 => ⟨hSS f69, rCheck_spec (hP49 f69) (hT49 f69) (by omega) (hN49 f69) fun w71 f71 => ?_⟩
 have f71 := f69.t f71
 refine ⟨hSS f71, cnd_beq.2 ⟨fun _ => ?_, fun h => absurd rfl h⟩⟩
 refine ⟨s0, fun u hu => hu.1.at rfl, s1, fun u hu => hu.1.at rfl, s2, fun u hu => hu.1.at rfl, _, fun u hu => hu.1.at rfl, _, fun u hu => hu.1.at rfl, y, fun u hu => hu.2.2.at rfl, _, fun u hu => hu.2.2.at rfl, _, fun u hu => hu.2.2.at rfl, ns, fun u hu => hu.2.2.at rfl,
  s0, fun u hu => hu.1.at rfl, s1, fun u hu => hu.1.at rfl, s2, fun u hu => hu.1.at rfl, _, fun u hu => hu.1.at rfl, _, fun u hu => hu.1.at rfl, y, fun u hu => hu.2.2.at rfl, _, fun u hu => hu.2.2.at rfl, _, fun u hu => hu.2.2.at rfl, ns, fun u hu => hu.2.2.at rfl, ?_⟩
 refine pCheck_spec (hP49 f71) (hv49.fr f71) (by omega) (hN49 f71) fun w91 f91 => ⟨hSS (f71.t f91), rCheck_spec (hP49 (f71.t f91)) (hv49.fr (f71.t f91)) (by omega) (hN49 (f71.t f91)) fun w93 f93 => ?_⟩
 have f93 := (f71.t f91).t f93
 refine ⟨hSS f93, ?_⟩
 rw [beq_self_eq_true]
 exact hK12 w93 (m.1.t f93)
theorem Lies_fr {K : Bool -> World -> Prop} (g : GlT w) (hv : VI w s l) (hl : l.length < 2 ^ 63) (hx : LieV w a T x1 x2 b N) (hK : ∀ w', Fr F0 w w' -> K true w') : z0f_sh s a x1 x2 b K w := Lies_law g hv hl hx hK
end
end Go.Proofs.YtfpobpjandjhjaaGreatDoor
namespace Pw
open Go Go.ChangeShapes Go.WideShapes Go.ChangeAt Go.RowKit
section
variable {H : Type} {enc : TypeId × Value -> H} {P : Program} {W : World} {base : Nat} {spare : Nat -> Bool} {held : Bool}
theorem trod_struct3' {t : TypeId} {f0 f1 f2 : Field} {fuel : Nat} {cs : List Value} {x : DataW H × List MemPlace} (ht : P.underlying t = some (.struct #[f0, f1, f2])) (h : DataW.trod enc P W base spare held fuel t cs = some x) :
  ∃ y0 y1 y2 n, x.1 = .agg [y0.1, y1.1, y2.1] /\ cs.length = P.cellsOf t /\ DataW.trod enc P W base spare held n f0.type ((cs.drop f0.offset).take (P.cellsOf f0.type)) = some y0 /\
   DataW.trod enc P W base spare held n f1.type ((cs.drop f1.offset).take (P.cellsOf f1.type)) = some y1 /\ DataW.trod enc P W base spare held n f2.type ((cs.drop f2.offset).take (P.cellsOf f2.type)) = some y2 := by
 obtain ⟨xs, n, _, rfl, hl, hlen, hf⟩ := DataW.trod_struct ht h
 match xs, hlen with
 | [y0, y1, y2], _ => exact ⟨y0, y1, y2, n, by simp, hl, by simpa using hf 0 f0 rfl, by simpa using hf 1 f1 rfl, by simpa using hf 2 f2 rfl⟩
theorem trod_struct4' {t : TypeId} {f0 f1 f2 f3 : Field} {fuel : Nat} {cs : List Value} {x : DataW H × List MemPlace} (ht : P.underlying t = some (.struct #[f0, f1, f2, f3])) (h : DataW.trod enc P W base spare held fuel t cs = some x) :
  ∃ y0 y1 y2 y3 n, x.1 = .agg [y0.1, y1.1, y2.1, y3.1] /\ cs.length = P.cellsOf t /\ DataW.trod enc P W base spare held n f0.type ((cs.drop f0.offset).take (P.cellsOf f0.type)) = some y0 /\
   DataW.trod enc P W base spare held n f1.type ((cs.drop f1.offset).take (P.cellsOf f1.type)) = some y1 /\ DataW.trod enc P W base spare held n f2.type ((cs.drop f2.offset).take (P.cellsOf f2.type)) = some y2 /\
   DataW.trod enc P W base spare held n f3.type ((cs.drop f3.offset).take (P.cellsOf f3.type)) = some y3 := by
 obtain ⟨xs, n, _, rfl, hl, hlen, hf⟩ := DataW.trod_struct ht h
 match xs, hlen with
 | [y0, y1, y2, y3], _ => exact ⟨y0, y1, y2, y3, n, by simp, hl, by simpa using hf 0 f0 rfl, by simpa using hf 1 f1 rfl, by simpa using hf 2 f2 rfl, by simpa using hf 3 f3 rfl⟩
end
end Pw
namespace Go.Proofs.YtfpobpjandjhjaaGreatDoor
open Go Pw Go.ChangeShapes Go.WideShapes Go.ChangeAt Go.RowKit
section
variable {H : Type} {enc : TypeId × Value -> H} {P : Program} {W : World}
theorem i64_of {n : Int} (h : (Lit.int .i64 n).wf = true) : I64 n := wf_i64 h
def NdF (W : World) (R : Nat) (c : NdC) (n : Nd) : Prop := NdV W c n /\ I64 n.lot /\ (∀ x ∈ n.next, I64 x) /\ n.next.length * 8 <= R
theorem open_knot {kn g e : TypeId} {g0 g1 g2 : Field} {fuel R : Nat} {cs : List Value} {y : DataW H × List MemPlace} (hk : P.underlying kn = some (.struct #[g0, g1, g2])) (k0 : P.underlying g0.type = some (.int .i64)) (k1 : P.underlying g1.type = some (.array 2 g)) (kg : P.underlying g = some (.int .i64))
  (k2 : P.underlying g2.type = some (.slice e)) (ke : P.underlying e = some (.int .i64)) (o : g0.offset = 0 /\ g1.offset = 1 /\ g2.offset = 3) (c : P.cellsOf kn = 4 /\ P.cellsOf g0.type = 1 /\ P.cellsOf g1.type = 2 /\ P.cellsOf g = 1 /\ P.cellsOf g2.type = 1 /\ P.cellsOf e = 1) (hb : P.bytesOf e = 8)
  (h : DataW.trod enc P W 0 (fun _ => true) true fuel kn cs = some y) (hw : ∀ n ∈ y.1.weights P kn, n <= R) : ∃ q : NdC × Nd, cs = encN q.1 /\ NdF W R q.1 q.2 := by
 obtain ⟨o0, o1, o2⟩ := o
 obtain ⟨ck, c0, c1, cg, c2, ce⟩ := c
 obtain ⟨y0, y1, y2, n, hy, hl, h0, h1, h2⟩ := trod_struct3' hk h
 rw [ck] at hl
 obtain ⟨v0, v1, v2, v3, rfl⟩ : ∃ a b c d, cs = [a, b, c, d] := by
  match cs, hl with
  | [a, b, c, d], _ => exact ⟨a, b, c, d, rfl⟩
 rw [o0, c0] at h0
 rw [o1, c1] at h1
 rw [o2, c2] at h2
 obtain ⟨a, ha, _, wa⟩ := DataW.trod_int k0 h0
 obtain ⟨xs, m, _, _, _, hx, hat⟩ := DataW.trod_array k1 h1
 have g0' := hat 0 (by omega)
 have g1' := hat 1 (by omega)
 rw [cg, List.getElem?_eq_getElem (by omega)] at g0' g1'
 obtain ⟨b, hb0, _, wb⟩ := DataW.trod_int kg g0'
 obtain ⟨d, hd0, _, wd⟩ := DataW.trod_int kg g1'
 obtain ⟨q, l, hq, hv, hwf, _, hlen⟩ := cell_viR k2 ke ce h2
 simp at ha hb0 hd0 hq
 subst ha hb0 hd0 hq
 have hw2 : ∀ n ∈ y2.1.weights P g2.type, n <= R := fun n hn => hw n (by
  rw [hy]
  simp only [DataW.weights, hk, List.map_cons, List.map_nil, DataW.weightsEach, List.mem_append]
  exact .inr (.inr (.inl hn)))
 exact ⟨⟨⟨a, b, d, q⟩, ⟨a, b, d, l⟩⟩, rfl, ⟨⟨rfl, rfl, rfl⟩, hv, i64_of wb, i64_of wd⟩, i64_of wa, fun x hx => i64_of (hwf x hx), hlen R 8 hb hw2⟩
theorem arg_lie {r : Reach} {b0 : Nat} {t kn g e e' : TypeId} {f0 f1 f2 f3 g0 g1 g2 : Field} {v : Value} {d : DataW H} {ps : List MemPlace} (ht : P.underlying t = some (.struct #[f0, f1, f2, f3])) (h0 : P.underlying f0.type = some (.slice e)) (he : P.underlying e = some (.int .i64))
  (h1 : P.underlying f1.type = some (.int .i64)) (h2 : P.underlying f2.type = some (.int .i64)) (h3 : P.underlying f3.type = some (.slice kn)) (hk : P.underlying kn = some (.struct #[g0, g1, g2])) (k0 : P.underlying g0.type = some (.int .i64)) (k1 : P.underlying g1.type = some (.array 2 g)) (kg : P.underlying g = some (.int .i64))
  (k2 : P.underlying g2.type = some (.slice e')) (ke : P.underlying e' = some (.int .i64)) (o : f0.offset = 0 /\ f1.offset = 1 /\ f2.offset = 2 /\ f3.offset = 3) (o' : g0.offset = 0 /\ g1.offset = 1 /\ g2.offset = 3)
  (c : P.cellsOf t = 4 /\ P.cellsOf f0.type = 1 /\ P.cellsOf f1.type = 1 /\ P.cellsOf f2.type = 1 /\ P.cellsOf f3.type = 1 /\ P.cellsOf e = 1) (c' : P.cellsOf kn = 4 /\ P.cellsOf g0.type = 1 /\ P.cellsOf g1.type = 2 /\ P.cellsOf g = 1 /\ P.cellsOf g2.type = 1 /\ P.cellsOf e' = 1)
  (hb : P.bytesOf e = 8) (hb' : P.bytesOf e' = 8) (hbk : P.bytesOf kn = 48) (hval : Value.okWide P W r b0 t v) (h : DataW.Trod enc P W 0 (fun _ => true) true t v d ps) (hw : ∀ n ∈ d.weights P t, n <= reachBytes) :
  ∃ (a b : Sl) (T : List Int) (x1 x2 : Int) (N : List Nd), v = .agg #[.slice a.p a.l a.c, .int .i64 x1, .int .i64 x2, .slice b.p b.l b.c] /\ LieV W a T x1 x2 b N := by
 obtain ⟨o0, o1, o2, o3⟩ := o
 obtain ⟨ct, c0, c1, c2, c3, ce⟩ := c
 have ck := c'.1
 unfold Value.okWide at hval
 rw [ht] at hval
 obtain ⟨cs, rfl, hsz, _⟩ := hval
 obtain ⟨fuel, hf⟩ := h
 obtain ⟨y0, y1, y2, y3, n, hy, _, q0, q1, q2, q3⟩ := trod_struct4' ht hf
 rw [ct] at hsz
 obtain ⟨v0, v1, v2, v3, rfl⟩ : ∃ a b c d, cs = #[a, b, c, d] := by
  rcases cs with ⟨l⟩
  match l, hsz with
  | [a, b, c, d], _ => exact ⟨a, b, c, d, rfl⟩
 rw [o0, c0] at q0
 rw [o1, c1] at q1
 rw [o2, c2] at q2
 rw [o3, c3] at q3
 simp only at hy
 obtain ⟨a, T, ha, hTv, hTw, _, hTl⟩ := cell_viR h0 he ce q0
 obtain ⟨x1, e1, _, w1⟩ := DataW.trod_int h1 q1
 obtain ⟨x2, e2, _, w2⟩ := DataW.trod_int h2 q2
 simp [Value.cells] at ha e1 e2
 subst ha e1 e2
 have hwa : ∀ n, n ∈ y0.1.weights P f0.type \/ n ∈ y3.1.weights P f3.type -> n <= reachBytes := fun n hn => hw n (by
  rw [hy]
  simp only [DataW.weights, ht, List.map_cons, List.map_nil, DataW.weightsEach, List.mem_append]
  rcases hn with hn | hn
  ·exact .inl hn
  ·exact .inr (.inr (.inr (.inl hn))))
 have hT8 := hTl reachBytes 8 hb fun n hn => hwa n (.inl hn)
 rcases Go.Deep.open_slice h3 q3 with ⟨hcs, _⟩ | ⟨a', len, cap, m, n', D, Pl, hcs, _, hle, _, hm, hx, hel⟩
 ·simp [Value.cells] at hcs
  subst hcs
  exact ⟨a, ⟨none, 0, 0⟩, T, x1, x2, [], rfl, hTv, hT8, ⟨⟨[], Vw.nil, rfl, fun i c n hc => by simp at hc⟩, by simp⟩, fun x hx => i64_of (hTw x hx), i64_of w1, i64_of w2, fun x hx => by cases hx⟩
 ·simp [Value.cells] at hcs
  subst hcs
  simp only [if_true] at hm
  subst hm
  rw [ck] at hel
  have hxw : y3.1 = .slice ((List.range len).map D) ((List.range (m - len)).map fun j => D (len + j)) := by rw [hx]
  have hlenw : ((List.range len).map D).length * 48 + ((List.range (m - len)).map fun j => D (len + j)).length * 48 <= reachBytes := hwa _ (.inr (by
   rw [hxw]
   simp only [DataW.weights, h3, hbk]
   rw [← Nat.add_mul]
   exact List.mem_cons_self ..))
  simp only [List.length_map, List.length_range] at hlenw
  have hDw : ∀ i, i < len -> ∀ n ∈ (D i).weights P kn, n <= reachBytes := fun i hi n hn => hwa n (.inr (by
   rw [hxw]
   simp only [DataW.weights, h3]
   refine List.mem_cons_of_mem _ (List.mem_append_left _ ?_)
   have hmem : D i ∈ (List.range len).map D := List.mem_map_of_mem (List.mem_range.2 hi)
   revert hmem
   generalize (List.range len).map D = L
   intro hmem
   induction L with
   | nil => cases hmem
   | cons z L ih =>
    simp only [DataW.weightsAll, List.mem_append]
    rcases List.mem_cons.1 hmem with rfl | hmem
    ·exact .inl hn
    ·exact .inr (ih hmem)))
  have key : ∀ i, i < len -> ∃ q : NdC × Nd, NdF W reachBytes q.1 q.2 /\ ∀ j, j < 4 -> W.cell? ((a'.add (i * 4)).add j) = (encN q.1)[j]? := fun i hi => by
   obtain ⟨cs', g1', g2'⟩ := hel i (by omega)
   obtain ⟨q, rfl, hq⟩ := open_knot hk k0 k1 kg k2 ke o' c' hb' g2' (hDw i hi)
   exact ⟨q, hq, (World.cells?_some g1').2.2⟩
  let qs := (List.range len).pmap (fun i (hi : i < len) => Classical.choose (key i hi)) (fun i hi => List.mem_range.1 hi)
  have hql : qs.length = len := by simp [qs]
  have hq : ∀ i (hi : i < qs.length), NdF W reachBytes qs[i].1 qs[i].2 /\ ∀ j, j < 4 -> W.cell? ((a'.add (i * 4)).add j) = (encN qs[i].1)[j]? := fun i hi => by
   have hi' : i < len := by omega
   have e : qs[i] = Classical.choose (key i hi') := by simp [qs]
   rw [e]
   exact Classical.choose_spec (key i hi')
  clear_value qs
  have hreach : reachBytes = 140737488351232 := rfl
  have hNV : NV W ⟨some a', len, m⟩ (qs.map (·.2)) := by
   refine ⟨⟨qs.map (·.1), ⟨by simp [hql], hle, ?_⟩, by simp, fun i c n hc hn => ?_⟩, by simp; omega⟩
   ·refine ⟨by rw [fm_length (fun a => encN_length a)]; simp [hql], fun i hi => ?_⟩
    rw [fm_length (fun a => encN_length a)] at hi
    simp at hi
    have hi4 : i / 4 < qs.length := by omega
    have h2 := (hq (i / 4) hi4).2 (i % 4) (Nat.mod_lt _ (by decide))
    have h3 := fm_at (fun a => encN_length a) (qs.map (·.1)) (i / 4) (i % 4) qs[i / 4].1 (by simp [hi4]) (Nat.mod_lt _ (by decide))
    rw [add_add] at h2
    rw [show i / 4 * 4 + i % 4 = i by omega] at h2 h3
    rw [h2, ← h3]
    exact List.getElem?_eq_getElem _
   ·rw [List.getElem?_map] at hc hn
    obtain ⟨z, hz, rfl⟩ := Option.map_eq_some_iff.1 hc
    rw [hz] at hn
    cases hn
    obtain ⟨hi, rfl⟩ := List.getElem?_eq_some_iff.1 hz
    exact (hq i hi).1.1
  refine ⟨a, ⟨some a', len, m⟩, T, x1, x2, qs.map (·.2), rfl, hTv, hT8, hNV, fun x hx => i64_of (hTw x hx), i64_of w1, i64_of w2, fun x hx => ?_⟩
  obtain ⟨z, hz, rfl⟩ := List.mem_map.1 hx
  obtain ⟨i, hi, rfl⟩ := List.mem_iff_getElem.1 hz
  exact ⟨(hq i hi).1.2.1, (hq i hi).1.2.2.1, (hq i hi).1.2.2.2⟩
end
end Go.Proofs.YtfpobpjandjhjaaGreatDoor
