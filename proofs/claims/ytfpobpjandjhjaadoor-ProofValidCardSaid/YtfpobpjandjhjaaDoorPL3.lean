/- ProofValid. Conditions: none. -/
import Derived.Test.YtfpobpjandjhjaaDoorPEX
namespace Go.Proofs.YtfpobpjandjhjaaDoor
open Go Pw
section
variable {w w' w0 : World} {s s0 s1 s2 s5 : Sl} {p : Pr} {l f T : List Int} {q0 q1 q2 a b : Int}
theorem upR_ge (hp : RightPr p) (hT : permB p T = true) {j : Nat} (h : (upR p (T.take j) a b).2 = true) : worth p T <= (upR p (T.take j) a b).1 := by
 have hq := permB_iff.1 hT
 unfold upR at h ⊢
 generalize ho : (if (rightB p && decsB p p.lots (T.take j)) = true then upB p (T.take j) a b else none) = o at h ⊢
 cases o with
 | none => cases h
 | some n =>
  split at ho
  ·exact upB_good hp _ _ _ _ ho T (List.take_prefix ..) hq
  ·cases ho
theorem Valid_law {K : Bool -> World -> Prop} (g : GlT w) (hv : VI w s l) (hl : l.length < 2 ^ 63) (hf : VI w s5 f) (hfr : f.length * 8 <= 140737488351232) (hq1 : I64 q1) (hq2 : I64 q2) (hK : ∀ w', Fr F0 w w' -> K true w') : z04_sh s s5 q0 q1 q2 K w := by
 have hp := madeP_right l
 refine ⟨?_⟩
 unfold z04_sd
 intro w1
 have m : Mem w w1 _ := Mem.nil.allocL (cs := [.int .i64 q0, .int .i64 q1, .int .i64 q2])
 clear_value w1
 refine sanity_spec (g.fr m.1) fun w2 f2 => ?_
 have m := m.fr f2
 refine Made_spec (hv.fr m.1) hl fun w4 s0 s1 s2 f4 hP => ?_
 have m := m.fr f4
 have hq := m.row 0 rfl
 have hw4 := m.1
 clear m
 have hK4 : ∀ u, Fr F0 w4 u -> K true u := fun u h => hK u (hw4.t h)
 refine stN_new (w0 := w4) (l := []) rfl Mem.nil fun w7 m => ?_
 intro w8
 have m : Mem w4 w8 [(w4.heap.size, prC s0 s1 s2 (madeP l).most (madeP l).budget)] := m.drew
 clear_value w8
 have hS : ∀ {u}, Fr F0 w8 u -> Row u w4.heap.size (prC s0 s1 s2 (madeP l).most (madeP l).budget) := fun h => h.row (m.row 0 rfl) fun h => h
 refine ⟨fun u => Row u w4.heap.size (prC s0 s1 s2 (madeP l).most (madeP l).budget), hS Fr.refl, s0, fun u hu => hu.at rfl, s1, fun u hu => hu.at rfl, s2, fun u hu => hu.at rfl, _, fun u hu => hu.at rfl, _, fun u hu => hu.at rfl, ?_⟩
 intro w15
 have h : Sp w8 w15 _ _ _ 1 (ie .i64 (id : Int -> Int)) _ _ := Sp.empty (fun a => ie_length _ _ a) Mem.nil
 clear_value w15
 have hm := h.mk''
 refine ⟨hS hm.fr0, hm.app (hf.fr ((hw4.t m.1).t hm.fr0)) (ie_ok _ _) rfl (by simp; omega) (by simp; omega) fun s16 w17 hm _ => ⟨hS hm.fr0, ?_⟩⟩
 rw [List.nil_append] at hm
 refine hm.appZ (z := (0 : Int)) (k := 12) rfl rfl (by omega) (by omega) fun s18 w19 hm => ⟨hS hm.fr0, ?_⟩
 have hw19 := m.1.t hm.fr0
 refine prefix22_spec hp (hP.fr hw19) hm.vw fun w20 y T f20 hT hTl => ?_
 have hw20 := hw19.t f20
 have h8 : Fr F0 w8 w20 := hm.fr0.t f20
 have hr := hS h8
 have hPF : ∀ {u}, Fr F0 w20 u -> PF u s0 s1 s2 y (madeP l) T := fun h => ⟨hP.fr (hw20.t h), hT.fr h, by omega⟩
 refine ⟨s0, hr.at rfl, s1, hr.at rfl, s2, hr.at rfl, _, hr.at rfl, _, hr.at rfl, refPermitted_spec (hPF Fr.refl) fun w27 f27 => ?_⟩
 rw [rightB_iff.2 hp, Bool.true_and]
 cases hpt : permB (madeP l) T with
 | false => exact hK4 w27 (hw20.t f27)
 | true =>
 show cnd (!true) _ _
 rw [Bool.not_true, cnd_false]
 intro w29
 have f29 : Fr F0 w20 w29 := f27.t Fr.drew
 clear_value w29
 have el := hT.len
 have hc := hT.cap
 have hSS : ∀ {u}, Fr F0 w29 u -> Row u w4.heap.size (prC s0 s1 s2 (madeP l).most (madeP l).budget) /\ Row u w.heap.size [.int .i64 q0, .int .i64 q1, .int .i64 q2] := fun h => ⟨hS ((h8.t f29).t h), ((hw20.t f29).t h).row hq fun h => h⟩
 refine ⟨fun u => Row u w4.heap.size (prC s0 s1 s2 (madeP l).most (madeP l).budget) /\ Row u w.heap.size [.int .i64 q0, .int .i64 q1, .int .i64 q2], hSS Fr.refl, s0, fun u hu => hu.1.at rfl, s1, fun u hu => hu.1.at rfl, s2, fun u hu => hu.1.at rfl, _, fun u hu => hu.1.at rfl, _, fun u hu => hu.1.at rfl,
  ⟨by decide, by decide⟩, _, fun u hu => hu.2.at (i := 0) rfl, inR64 (by omega) (by omega), ⟨by decide, by decide⟩, _, fun u hu => hu.2.at (i := 1) rfl, ⟨by decide, by decide⟩, _, fun u hu => hu.2.at (i := 2) rfl, ?_⟩
 refine rMod_spec (by omega) (by omega) fun r hr0 hr1 => ⟨hSS Fr.refl, ⟨by omega, by omega, by omega⟩, ?_⟩
 obtain ⟨r, rfl⟩ := Int.eq_ofNat_of_zero_le hr0
 rw [Int.toNat_natCast]
 have hV : VI w29 ⟨subP y.p 0 y.c 1, r - 0, y.c - 0⟩ (T.take r) := (hT.fr f29).take (fun a => ie_length _ _ a) (by omega)
 refine pBound_spec ⟨hP.fr (hw20.t f29), hV, by simp; omega⟩ hq1 hq2 fun w41 f41 => ⟨hSS f41, cnd_iff.2 ⟨fun _ => cnd_iff.2 ⟨fun _ => hK4 w41 (hw20.t (f29.t f41)), fun hok => ?_⟩, fun h => by cases h⟩⟩
 have hr := (hSS f41).1
 refine ⟨s0, hr.at rfl, s1, hr.at rfl, s2, hr.at rfl, _, hr.at rfl, _, hr.at rfl, refValue_spec hp (hPF (f29.t f41)) (perm_fits hpt) fun w49 f49 => ?_⟩
 have hge := upR_ge hp hpt (j := r) (a := q1) (b := q2) (by simpa using hok)
 rw [decide_eq_true (by omega)]
 exact hK4 w49 (hw20.t (f29.t (f41.t f49)))
theorem Valid_fr {K : Bool -> World -> Prop} (g : GlT w) (hv : VI w s l) (hl : l.length < 2 ^ 63) (hf : VI w s5 f) (_ : f.length < 2 ^ 63) (hfr : f.length * 8 <= 140737488351232) (hq : I64 q0 /\ I64 q1 /\ I64 q2) (hK : ∀ w', Fr F0 w w' -> K true w') : z04_sh s s5 q0 q1 q2 K w :=
 Valid_law g hv hl hf hfr hq.2.1 hq.2.2 hK
end
end Go.Proofs.YtfpobpjandjhjaaDoor
