/- CombineProofs and CombineGaps. Conditions: none. -/
import Derived.Test.YtmkjcheafdionaaGreatCU4
import Derived.Test.YtmkjcheafdionaaGreatCEY
import Derived.Test.YtmkjcheafdionaaGreatCF3
import Derived.Test.YtmkjcheafdionaaGreatCG6
namespace Go.Proofs.YtmkjcheafdionaaGreat
open Go Pw
section
variable {w wB wM : World} {s t s0 s1 s2 n1 ns : Sl} {l a T : List Int} {p : Pr} {pb rb : Nat} {bnd work : Int} {cs : List NdC} {N : List Nd} {L : List (Nat × List Value)}
theorem V.reb (m : Mem wM wB L) (h : V wB w [] [] [] ns t T cs N) : V wM w L [] [] ns t T cs N := by
 have hlt : ∀ q ∈ L, q.1 < wB.heap.size := fun q hq => (m.2.1 q hq).lt
 exact ⟨m.fr h.m.1, fun _ hx => (by cases hx), h.ow, h.tv, h.nv, fun q hq => ⟨fun hb => by have := h.n0 _ hb; have := hlt q hq; omega, fun hb => by have := h.n1 _ hb; have := hlt q hq; omega, fun c hc hb => by have := h.n2 c hc _ hb; have := hlt q hq; omega⟩,
  fun _ hx => (by cases hx), h.a3, fun b hb => Nat.le_trans m.1.1 (h.n0 b hb), fun b hb => Nat.le_trans m.1.1 (h.n1 b hb), fun c hc b hb => Nat.le_trans m.1.1 (h.n2 c hc b hb), h.a4, fun _ ho => (by cases ho)⟩
theorem Gaps_spec {K : Bool -> World -> Prop} (hv : VI w s l) (hl : l.length < 2 ^ 63) (hwk : 0 <= work /\ work < 256) (hK : ∀ w', Fr F0 w w' -> K true w') : z08_sh s work K w := by
 have hp := madeP_right l
 have r1 := Int.tmod_nonneg 40 hwk.1
 have r2 := Int.tmod_lt_of_pos work (show (0 : Int) < 40 by decide)
 have hfew := hp.few
 refine ⟨?_⟩
 unfold z08_sd
 refine sanity_spec fun w1 hf1 => ?_
 refine Made_spec (hv.fr hf1) hl fun w3 s0 s1 s2 hf3 hP => ?_
 have hK3 : ∀ w', Fr F0 w3 w' -> K true w' := fun w' h => hK w' ((hf1.t hf3).t h)
 refine stN_new (w0 := w3) (l := []) rfl Mem.nil fun w6 m => ?_
 refine ⟨s0, m.ld 0 rfl rfl, s1, m.ld 0 rfl rfl, s2, m.ld 0 rfl rfl, _, m.ld 0 rfl rfl, _, m.ld 0 rfl rfl, by decide, ?_, ?_⟩
 ·exact inR64 (by omega) (by omega)
 refine Solve_spec (hP.fr m.1) (fun hbad => ?_) fun _ _ w12 t x1 x2 ns e T cs N hV hS => ?_
 ·exfalso
  rcases hbad with hb | hb
  ·rw [rightB_iff.2 hp] at hb; cases hb
  ·rw [wiB_iff.2 ⟨r1, by omega⟩] at hb; cases hb
 have h := V.reb m hV
 intro w15
 have h : V w3 w15 _ _ _ _ _ _ _ _ := h.allocL (vs := [.slice none 0 0, .int .i64 0, .int .i64 0, .slice none 0 0])
 clear_value w15
 refine stN_atV h 0 rfl rfl fun w16 h => ?_
 have h : V w3 w16 [(w12.heap.size, rsC t x1 x2 ns), (w3.heap.size, prC s0 s1 s2 (madeP l).most (madeP l).budget)] [] [] ns t T cs N := h
 have hPT : Perm (madeP l) T := by rcases hS with ⟨_, h1, _⟩ | ⟨_, h1, _⟩; exact h1.1; exact h1
 refine ⟨s0, h.ld 1 rfl rfl, s1, h.ld 1 rfl rfl, s2, h.ld 1 rfl rfl, _, h.ld 1 rfl rfl, _, h.ld 1 rfl rfl, refBest_spec hp (hP.fr h.m.1) fun w22 sb hfb hsb => ?_⟩
 have hbest := bF_best hp
 have hfitT := perm_fits (permB_iff.2 hPT)
 have hfitB := perm_fits (permB_iff.2 hbest.1)
 have ep : ∀ {f : List Int}, fitsB (madeP l) f = true -> pointsR (madeP l) (rightB (madeP l)) (fitsB (madeP l) f) f = ptsOf (madeP l) f := fun hf => by
  unfold pointsR
  rw [rightB_iff.2 hp, hf]
  rfl
 have h := h.fr hfb
 rcases hS with ⟨rfl, h1, rfl, rfl, h2, h3⟩ | ⟨rfl, _, rfl, rfl, rfl, _⟩
 ·have hb : bF (madeP l) [] (madeP l).lots [] = T := hbest.uniq h1
  rw [hb] at hsb
  refine cnd_beq.2 ⟨fun _ => cnd_iff.2 ⟨fun _ => ⟨t, h.ld 0 rfl rfl, Ints_spec h.tv.vw hsb (by rw [hPT.1]; omega) fun w25 hf25 => ?_⟩, fun h => by cases h⟩, fun h => absurd rfl h⟩
  rw [decide_eq_true rfl]
  have h := h.fr hf25
  refine cnd_iff.2 ⟨fun _ => ⟨s0, h.ld 1 rfl rfl, s1, h.ld 1 rfl rfl, s2, h.ld 1 rfl rfl, _, h.ld 1 rfl rfl, _, h.ld 1 rfl rfl, t, h.ld 0 rfl rfl, _, h.ld 0 rfl rfl, _, h.ld 0 rfl rfl, ns, h.ld 0 rfl rfl, ?_⟩, fun h => by cases h⟩
  have hNV : NV w25 ns N := by
   refine ⟨⟨cs, h.ow.vw, h.nv.len, fun i c n hc hn => ?_⟩, by omega⟩
   have := h.nv.at hc hn
   exact ⟨⟨this.lot, this.num, this.den⟩, this.nx.vw, this.i1, this.i2⟩
  refine Proof_spec (hP.fr h.m.1) h.tv.vw (by rw [hPT.1]; omega) hNV fun w36 hf36 => ?_
  have h := h.fr hf36
  rw [proof_true hp hPT h2]
  refine cnd_iff.2 ⟨fun _ => ⟨_, h.ld 0 rfl rfl, _, h.ld 0 rfl rfl, ?_⟩, fun h => by cases h⟩
  rw [show (ptsOf (madeP l) T == ptsOf (madeP l) T) = true from beq_self_eq_true _]
  exact hK3 _ h.m.1
 ·refine cnd_beq.2 ⟨fun h => (by cases h), fun _ => ?_⟩
  refine ⟨s0, h.ld 1 rfl rfl, s1, h.ld 1 rfl rfl, s2, h.ld 1 rfl rfl, _, h.ld 1 rfl rfl, _, h.ld 1 rfl rfl, t, h.ld 0 rfl rfl, refPoints_spec (f := T) ⟨hP.fr h.m.1, h.tv.vw, by rw [hPT.1]; omega⟩ fun w46 hf46 => ?_⟩
  rw [ep hfitT]
  have h := h.fr hf46
  have hsb := hsb.fr hf46
  intro w48
  have hsb : VI w48 sb _ := hsb.fr Fr.drew
  have h : V w3 w48 _ _ _ _ _ _ _ _ := h.drew
  clear_value w48
  refine ⟨fun u => Rs u [(w12.heap.size, rsC t (ptsOf (madeP l) T) (mostOf (madeP l)) ns), (w3.heap.size, prC s0 s1 s2 (madeP l).most (madeP l).budget)], h.m.2.1, cnd_iff.2 ⟨fun _ => cnd_beq.2 ⟨fun _ => ?_, fun h => absurd rfl h⟩, fun h => by cases h⟩⟩
  refine ⟨s0, fun u hu => hu.ld 1 rfl rfl, s1, fun u hu => hu.ld 1 rfl rfl, s2, fun u hu => hu.ld 1 rfl rfl, _, fun u hu => hu.ld 1 rfl rfl, _, fun u hu => hu.ld 1 rfl rfl, t, fun u hu => hu.ld 0 rfl rfl, refPermitted_spec (f := T) ⟨hP.fr h.m.1, h.tv.vw, by rw [hPT.1]; omega⟩ fun w56 hf56 => ?_⟩
  have h := h.fr hf56
  rw [rightB_iff.2 hp, permB_iff.2 hPT]
  refine ⟨h.m.2.1, cnd_iff.2 ⟨fun _ => ⟨_, fun u hu => hu.ld 0 rfl rfl, cnd_beq.2 ⟨fun _ => ?_, fun h => absurd rfl h⟩⟩, fun h => by cases h⟩⟩
  refine ⟨_, fun u hu => hu.ld 0 rfl rfl, s0, fun u hu => hu.ld 1 rfl rfl, s1, fun u hu => hu.ld 1 rfl rfl, s2, fun u hu => hu.ld 1 rfl rfl, _, fun u hu => hu.ld 1 rfl rfl, _, fun u hu => hu.ld 1 rfl rfl, refPoints_spec (f := bF (madeP l) [] (madeP l).lots []) ⟨hP.fr h.m.1, hsb.fr hf56, by rw [hbest.1.1]; omega⟩ fun w65 hf65 => ?_⟩
  rw [ep hfitB]
  have h := h.fr hf65
  have hge := most_ge hbest.1.1 hbest.1.2.1
  refine ⟨h.m.2.1, cnd_prop.2 ⟨fun _ => ⟨ns, fun u hu => hu.ld 0 rfl rfl, ?_⟩, fun h => absurd (show mostOf (madeP l) >= _ from hge) h⟩⟩
  have e0 : ns.l = 0 := by have e1 := h.ow.len; have e2 : cs.length = 0 := h.nv.len; omega
  rw [show (((ns.l : Nat) : Int) == (0 : Int)) = true by rw [e0]; rfl]
  exact hK3 _ h.m.1
end
end Go.Proofs.YtmkjcheafdionaaGreat
