/- CombineProofs and CombineGaps. Conditions: none. -/
import Derived.Test.YtmkjcheafdionaaGreatCU4
import Derived.Test.YtmkjcheafdionaaGreatCEY
import Derived.Test.YtmkjcheafdionaaGreatCF3
import Derived.Test.YtmkjcheafdionaaGreatCG6
namespace Go.Proofs.YtmkjcheafdionaaGreat
open Go Pw
section
variable {w wB wM : World} {s t s0 s1 s2 n1 ns : Sl} {l a T : List Int} {p : Pr} {pb rb : Nat} {bnd work : Int} {cs : List NdC} {N : List Nd} {L : List (Nat × List Value)}
theorem V.reb (m : Mem wM wB L) (h : V wB w [] [] [] ns t T cs N) : V wM w L [] [] ns t T cs N := by
 have hlt : ∀ q ∈ L, q.1 < wB.heap.size := fun q hq => (m.2.1 q hq).lt
 exact ⟨m.fr h.m.1, fun _ hx => (by cases hx), h.ow, h.tv, h.nv, fun q hq => ⟨fun hb => by have := h.n0 _ hb; have := hlt q hq; omega, fun hb => by have := h.n1 _ hb; have := hlt q hq; omega, fun c hc hb => by have := h.n2 c hc _ hb; have := hlt q hq; omega⟩,
  fun _ hx => (by cases hx), h.a3, fun b hb => Nat.le_trans m.1.1 (h.n0 b hb), fun b hb => Nat.le_trans m.1.1 (h.n1 b hb), fun c hc b hb => Nat.le_trans m.1.1 (h.n2 c hc b hb), h.a4, fun _ ho => (by cases ho)⟩
theorem Proofs_k0 {x1 x2 : Int} {K : Bool -> World -> Prop} (hp : RightPr p) (hP : PV wM s0 s1 s2 p) (hA : IsBest p T) (hT : Tree (upB p) p T N p.lots [] 0 N.length) (hN : N.length < 2 ^ 47)
  (h : V wM wB [(rb, rsC t x1 x2 ns), (pb, prC s0 s1 s2 p.most p.budget)] [] [] ns t T cs N) (hK : ∀ w', Fr F0 wM w' -> K true w') : z03_k0 true ⟨pb, 0, none⟩ ⟨rb, 0, none⟩ 0 K wB := by
 have hfew := hp.few
 refine ⟨?_⟩
 unfold z03_k0d
 refine cnd_iff.2 ⟨fun _ => cnd_beq.2 ⟨fun _ => ⟨s0, h.ld 1 rfl rfl, s1, h.ld 1 rfl rfl, s2, h.ld 1 rfl rfl, _, h.ld 1 rfl rfl, _, h.ld 1 rfl rfl, t, h.ld 0 rfl rfl, _, h.ld 0 rfl rfl, _, h.ld 0 rfl rfl, ns, h.ld 0 rfl rfl, ?_⟩, fun h => absurd rfl h⟩, fun h => by cases h⟩
 have hNV : NV wB ns N := by
  refine ⟨⟨cs, h.ow.vw, h.nv.len, fun i c n hc hn => ?_⟩, hN⟩
  have := h.nv.at hc hn
  exact ⟨⟨this.lot, this.num, this.den⟩, this.nx.vw, this.i1, this.i2⟩
 refine Proof_spec (hP.fr h.m.1) h.tv.vw (by rw [hA.1.1]; omega) hNV fun w47 hf => ?_
 rw [proof_true hp hA.1 hT]
 exact hK w47 (h.m.1.t hf)
theorem Proofs_spec {K : Bool -> World -> Prop} (hv : VI w s l) (hl : l.length < 2 ^ 63) (hK : ∀ w', Fr F0 w w' -> K true w') : z03_sh s K w := by
 have hpn := made_prefN l
 have hp := madeP_right l
 have hwk : Wi (prefN (madeP l) (madeP l).lots : Nat) 1048576 := ⟨by omega, by omega⟩
 refine ⟨?_⟩
 unfold z03_sd
 refine sanity_spec fun w1 hf1 => ?_
 refine Made_spec (hv.fr hf1) hl fun w3 s0 s1 s2 hf3 hP => ?_
 have hK3 : ∀ w', Fr F0 w3 w' -> K true w' := fun w' h => hK w' ((hf1.t hf3).t h)
 refine stN_new (w0 := w3) (l := []) rfl Mem.nil fun w6 m => ?_
 intro w7
 have m : Mem w3 w7 _ := m.drew
 clear_value w7
 refine ⟨fun u => Row u w3.heap.size (prC s0 s1 s2 (madeP l).most (madeP l).budget), m.row 0 rfl, s0, fun u hu => hu.at rfl, s1, fun u hu => hu.at rfl, s2, fun u hu => hu.at rfl, _, fun u hu => hu.at rfl, _, fun u hu => hu.at rfl,
  s0, fun u hu => hu.at rfl, s1, fun u hu => hu.at rfl, s2, fun u hu => hu.at rfl, _, fun u hu => hu.at rfl, _, fun u hu => hu.at rfl, ?_, ?_⟩
 ·refine Prefixes_spec (hP.fr m.1) (by omega) fun w19 hf => ?_
  have m := m.fr hf
  refine ⟨m.row 0 rfl, ?_, ?_⟩
  ·refine Solve_full hp (hP.fr m.1) hwk (Int.le_refl _) fun w21 t bnd ns T cs N hV hT hbd hTr => ?_
   have h := V.reb m hV
   refine ⟨h.row 0 rfl, ?_⟩
   intro w24
   have h : V w3 w24 _ _ _ _ _ _ _ _ := h.allocL (vs := [.slice none 0 0, .int .i64 0, .int .i64 0, .slice none 0 0])
   clear_value w24
   refine ⟨h.row 1 rfl, stN_atV h 0 rfl rfl fun w25 h => ?_⟩
   exact Proofs_k0 hp hP hT hTr.1 (by have := hTr.2; omega) h hK3
  ·intro w26
   have m : Mem w3 w26 _ := m.allocL (cs := [.slice none 0 0, .int .i64 0, .int .i64 0, .slice none 0 0])
   clear_value w26
   refine ⟨m.row 1 rfl, Solve_full hp (hP.fr m.1) hwk (Int.le_refl _) fun w21 t bnd ns T cs N hV hT hbd hTr => ?_⟩
   have h := V.reb m hV
   refine ⟨h.row 1 rfl, stN_atV h 0 rfl rfl fun w25 h => ?_⟩
   exact Proofs_k0 hp hP hT hTr.1 (by have := hTr.2; omega) h hK3
 ·intro w26
  have m : Mem w3 w26 _ := m.allocL (cs := [.slice none 0 0, .int .i64 0, .int .i64 0, .slice none 0 0])
  clear_value w26
  refine ⟨m.row 1 rfl, Prefixes_spec (hP.fr m.1) (by omega) fun w19 hf => ?_⟩
  have m := m.fr hf
  refine ⟨m.row 1 rfl, Solve_full hp (hP.fr m.1) hwk (Int.le_refl _) fun w21 t bnd ns T cs N hV hT hbd hTr => ?_⟩
  have h := V.reb m hV
  refine ⟨h.row 1 rfl, stN_atV h 0 rfl rfl fun w25 h => ?_⟩
  exact Proofs_k0 hp hP hT hTr.1 (by have := hTr.2; omega) h hK3
end
end Go.Proofs.YtmkjcheafdionaaGreat
