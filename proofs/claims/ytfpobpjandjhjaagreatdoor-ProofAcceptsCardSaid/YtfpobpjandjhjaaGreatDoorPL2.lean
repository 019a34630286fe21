/- ProofAccepts. Conditions: none. -/
import Derived.Test.YtfpobpjandjhjaaGreatDoorPEX
import Derived.Test.YtfpobpjandjhjaaGreatDoorCFP
namespace Go.Proofs.YtfpobpjandjhjaaGreatDoor
open Go Pw
section
variable {w w' w0 wM wB : World} {s s0 s1 s2 t ns : Sl} {p : Pr} {l T : List Int} {N : List Nd} {cs : List NdC} {pts bnd : Int} {L : List (Nat × List Value)}
theorem V.nvr (h : V wM wB L [] [] ns t T cs N) (hN : N.length < 2 ^ 47) : NV wB ns N := by
 refine ⟨⟨cs, h.ow.vw, h.nv.len, fun i c n hc hn => ?_⟩, hN⟩
 have := h.nv.at hc hn
 exact ⟨⟨this.lot, this.num, this.den⟩, this.nx.vw, this.i1, this.i2⟩
theorem chk_ok (hp : RightPr p) (hA : IsBest p T) (hT : Tree (upB p) p T N p.lots [] 0 N.length) (hb : bnd = ptsOf p T) : chkP p T (ptsOf p T) bnd N = 0 := by
 unfold chkP
 rw [rightB_iff.2 hp, permB_iff.2 hA.1, proof_true hp hA.1 hT, decide_eq_true rfl, decide_eq_true hb]
 rfl
theorem Accepts_law {K : Bool -> World -> Prop} (g : GlT w) (hv : VI w s l) (hl : l.length < 2 ^ 63) (hK : ∀ w', Fr F0 w w' -> K true w') : z04_sh s K w := by
 have hpn := made_prefN l
 have hp := madeP_right l
 have hfew := hp.few
 refine ⟨?_⟩
 unfold z04_sd
 refine sanity_spec g fun w1 f1 => ?_
 refine Made_spec (hv.fr f1) hl fun w3 s0 s1 s2 f3 hP => ?_
 have hK3 : ∀ w', Fr F0 w3 w' -> K true w' := fun w' h => hK w' ((f1.t f3).t h)
 refine stN_new (w0 := w3) (l := []) rfl Mem.nil fun w6 m => ?_
 refine ⟨s0, m.ld 0 rfl rfl, s1, m.ld 0 rfl rfl, s2, m.ld 0 rfl rfl, _, m.ld 0 rfl rfl, _, m.ld 0 rfl rfl, ?_⟩
 refine Solve_full hp (hP.fr m.1) ⟨by omega, by omega⟩ (by omega) fun w12 t bnd ns T cs N hV hT hbd hTr => ?_
 have h := V.reb m hV
 intro w15
 have h : V w3 w15 _ _ _ _ _ _ _ _ := h.allocL (vs := [.slice none 0 0, .int .i64 0, .int .i64 0, .slice none 0 0])
 clear_value w15
 refine stN_atV h 0 rfl rfl fun w16 h => ?_
 simp only [List.set_cons_zero] at h
 refine cnd_beq.2 ⟨fun h => absurd h (by decide), fun _ => cnd_iff.2 ⟨fun _ => cnd_beq.2 ⟨fun _ => ?_, fun h => absurd rfl h⟩, fun h => (by cases h)⟩⟩
 refine ⟨s0, h.ld 1 rfl rfl, s1, h.ld 1 rfl rfl, s2, h.ld 1 rfl rfl, _, h.ld 1 rfl rfl, _, h.ld 1 rfl rfl, t, h.ld 0 rfl rfl, _, h.ld 0 rfl rfl, _, h.ld 0 rfl rfl, ns, h.ld 0 rfl rfl, ?_⟩
 refine pCheck_spec (hP.fr h.m.1) h.tv.vw (by rw [hT.1.1]; omega) (h.nvr (by have := hTr.2; omega)) fun w33 f33 => ?_
 rw [chk_ok hp hT hTr.1 hbd]
 exact hK3 w33 (h.m.1.t f33)
end
end Go.Proofs.YtfpobpjandjhjaaGreatDoor
