/- The reference's Mod, Bound and Check. Conditions: none. -/
import Derived.Test.YtfpobpjandjhjaaGreatDoorPXX
import Derived.Test.YtfpobpjandjhjaaGreatDoorPG2
namespace Go.Proofs.YtfpobpjandjhjaaGreatDoor
open Go Pw
section
variable {w w' w0 : World} {s0 s1 s2 s5 t5 ns : Sl} {p : Pr} {f T : List Int} {N : List Nd} {pts bnd dn dd : Int}
theorem rMod_spec {n m : Int} {K : Int -> World -> Prop} (h0 : 0 < m) (h1 : m < 2 ^ 62) (hK : ∀ r, 0 <= r -> r < m -> K r w) : z2m_sh n m K w := by
 have a1 := Int.tmod_lt_of_pos n h0
 have a2 := Int.lt_tmod_of_pos n h0
 refine ⟨?_⟩
 unfold z2m_sd
 refine ⟨by omega, inR64 (by omega) (by omega), by omega, hK _ (Int.tmod_nonneg _ (by omega)) (Int.tmod_lt_of_pos _ h0)⟩
theorem rCheck_spec {K : Int -> World -> Prop} (hP : PV w s0 s1 s2 p) (hT : VI w t5 T) (hTl : T.length < 2 ^ 63) (hN : NV w ns N) (hK : ∀ w', Fr F0 w w' -> K (chkP p T pts bnd N) w') : z1w_sh s0 s1 s2 p.most p.budget t5 pts bnd ns K w := by
 refine ⟨?_⟩
 unfold z1w_sd
 intro w1
 have m : Mem w w1 _ := Mem.nil.allocL (cs := prC s0 s1 s2 p.most p.budget)
 clear_value w1
 intro w2
 have m : Mem w w2 [(w1.heap.size, rsC t5 pts bnd ns), (w.heap.size, prC s0 s1 s2 p.most p.budget)] := m.allocL (cs := rsC t5 pts bnd ns)
 clear_value w2
 refine ⟨s0, m.ld 1 rfl rfl, s1, m.ld 1 rfl rfl, s2, m.ld 1 rfl rfl, _, m.ld 1 rfl rfl, _, m.ld 1 rfl rfl, refRight_spec (hP.fr m.1) fun w8 hf8 => ?_⟩
 have m := m.fr hf8
 cases hr : rightB p with
 | false =>
  have hk := hK w8 m.1
  unfold chkP at hk
  rw [hr] at hk
  exact hk
 | true =>
 have hno : ∀ {u}, Fr F0 w u -> (permB p T && (decide (ptsOf p T = pts) && (decide (bnd = pts) && proofB p N T))) = false -> K 41 u := fun {u} hu h => by
  have hk := hK u hu
  unfold chkP at hk
  rw [hr, h] at hk
  exact hk
 have hyes : ∀ {u}, Fr F0 w u -> (permB p T && (decide (ptsOf p T = pts) && (decide (bnd = pts) && proofB p N T))) = true -> K 0 u := fun {u} hu h => by
  have hk := hK u hu
  unfold chkP at hk
  rw [hr, h] at hk
  exact hk
 show cnd (!true) _ _
 rw [Bool.not_true, cnd_false]
 have hPF : ∀ {u}, Fr F0 w u -> PF u s0 s1 s2 t5 p T := fun hu => ⟨hP.fr hu, hT.fr hu, hTl⟩
 refine ⟨s0, m.ld 1 rfl rfl, s1, m.ld 1 rfl rfl, s2, m.ld 1 rfl rfl, _, m.ld 1 rfl rfl, _, m.ld 1 rfl rfl, t5, m.ld 0 rfl rfl, ?_⟩
 refine refPermitted_spec (hPF m.1) fun w16 hf16 => ?_
 have m := m.fr hf16
 rw [hr, Bool.true_and]
 intro w18
 have m : Mem w w18 _ := m.drew
 clear_value w18
 refine ⟨fun u => Rs u [(w1.heap.size, rsC t5 pts bnd ns), (w.heap.size, prC s0 s1 s2 p.most p.budget)], m.sub 0 rfl, ?_⟩
 cases hpt : permB p T with
 | false => exact hno m.1 (by rw [hpt, Bool.false_and])
 | true =>
 rw [hpt, Bool.true_and] at hno hyes
 show cnd (!true) _ _
 rw [Bool.not_true, cnd_false]
 refine ⟨s0, fun _ h => h.ld 1 rfl rfl, s1, fun _ h => h.ld 1 rfl rfl, s2, fun _ h => h.ld 1 rfl rfl, _, fun _ h => h.ld 1 rfl rfl, _, fun _ h => h.ld 1 rfl rfl, t5, fun _ h => h.ld 0 rfl rfl, _, fun _ h => h.ld 0 rfl rfl, ?_⟩
 refine refPoints_spec (hPF m.1) fun w27 hf27 => ?_
 have m := m.fr hf27
 have e : pointsR p (rightB p) (fitsB p T) T = ptsOf p T := by
  unfold pointsR
  rw [hr, perm_fits hpt]
  rfl
 rw [e]
 refine ⟨m.sub 0 rfl, cnd_bne.2 ⟨fun hne => hno m.1 (by rw [decide_eq_false hne, Bool.false_and]), fun heq => ⟨_, fun _ h => h.ld 0 rfl rfl, _, fun _ h => h.ld 0 rfl rfl, cnd_bne.2 ⟨fun hne => hno m.1 (by rw [decide_eq_false hne, Bool.false_and, Bool.and_false]), fun heq2 => ?_⟩⟩⟩⟩
 rw [decide_eq_true heq, decide_eq_true heq2, Bool.true_and, Bool.true_and] at hno hyes
 refine ⟨s0, m.ld 1 rfl rfl, s1, m.ld 1 rfl rfl, s2, m.ld 1 rfl rfl, _, m.ld 1 rfl rfl, _, m.ld 1 rfl rfl, t5, m.ld 0 rfl rfl, _, m.ld 0 rfl rfl, _, m.ld 0 rfl rfl, ns, m.ld 0 rfl rfl, ?_⟩
 refine Proof_spec (hP.fr m.1) (hT.fr m.1) hTl (hN.fr m.1) fun w40 hf40 => cnd_iff.2 ⟨fun hn => hno (m.1.t hf40) (by simpa using hn), fun hy => hyes (m.1.t hf40) (by simpa using hy)⟩
end
end Go.Proofs.YtfpobpjandjhjaaGreatDoor
