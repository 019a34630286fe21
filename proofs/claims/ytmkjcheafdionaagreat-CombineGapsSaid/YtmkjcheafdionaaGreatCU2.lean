/- The reference: when a node may be closed. Conditions: none. -/
import Derived.Test.YtmkjcheafdionaaGreatCU1
import Derived.Test.YtmkjcheafdionaaGreatCF2
namespace Go.Proofs.YtmkjcheafdionaaGreat
open Go Pw
def boundB (p : Pr) (f : List Int) (a b : Int) (T : List Int) : Bool := (upR p f a b).2 && (decide ((upR p f a b).1 < worth p T) || (decide ((upR p f a b).1 = worth p T) && gtL f T))
def closedB (p : Pr) (f : List Int) (a b : Int) (T : List Int) : Bool := crowdB p f || (decide (p.budget < leastOf p f) || ((decide (f.length = p.lots.length) && !betterR p f T) || boundB p f a b T))
section
variable {w w' w0 : World} {s0 s1 s2 s5 t5 : Sl} {p : Pr} {f T : List Int} {db pb : Nat} {dn dd : Int} {K : Bool -> World -> Prop}
theorem closed_k0 (hp : RightPr p) (h : PF w0 s0 s1 s2 s5 p f) (hT : PF w0 s0 s1 s2 t5 p T) (hfit : fitsB p T = true) (hdn : I64 dn) (hdd : I64 dd)
  (m : Mem w0 w [(db, rrC dn dd), (pb, prC s0 s1 s2 p.most p.budget)]) (hK : ∀ w', Fr F0 w0 w' -> K (boundB p f dn dd T) w') : z1d_k0 s5 t5 ⟨pb, 0, none⟩ ⟨db, 0, none⟩ K w := by
 have hfin : ∀ w' (b : Bool), Fr F0 w0 w' -> b = boundB p f dn dd T -> K b w' := fun w' b hf e => e ▸ hK w' hf
 unfold boundB at hfin
 refine ⟨?_⟩
 unfold z1d_k0d
 refine ⟨_, m.ld 1 rfl rfl, ?_⟩
 refine ⟨_, m.ld 1 rfl rfl, ?_⟩
 refine ⟨_, m.ld 1 rfl rfl, ?_⟩
 refine ⟨_, m.ld 1 rfl rfl, ?_⟩
 refine ⟨_, m.ld 1 rfl rfl, ?_⟩
 refine ⟨_, m.ld 0 rfl rfl, ?_⟩
 refine ⟨_, m.ld 0 rfl rfl, ?_⟩
 refine refUpper_spec (h.fr m.1) hdn hdd fun w35 hf => ?_; have m := m.fr hf
 refine ⟨_, m.ld 1 rfl rfl, ?_⟩
 refine ⟨_, m.ld 1 rfl rfl, ?_⟩
 refine ⟨_, m.ld 1 rfl rfl, ?_⟩
 refine ⟨_, m.ld 1 rfl rfl, ?_⟩
 refine ⟨_, m.ld 1 rfl rfl, ?_⟩
 refine refValue_spec hp (hT.fr m.1) hfit fun w43 hf => ?_; have m := m.fr hf
 refine cnd_iff.2 ⟨fun hc1 => ?_, fun hc1 => ?_⟩
 ·refine cnd_prop.2 ⟨fun hc2 => ?_, fun hc2 => ?_⟩
  ·exact hfin _ _ m.1 (by simp_all)
  ·refine cnd_beq.2 ⟨fun hc3 => ?_, fun hc3 => ?_⟩
   ·refine refGreater_spec (h.fr m.1).tk (hT.fr m.1).tk h.lt fun w45 hf => ?_; have m := m.fr hf
    exact hfin _ _ m.1 (by simp_all)
   ·exact hfin _ _ m.1 (by simp_all)
 ·exact hfin _ _ m.1 (by simp_all)
theorem closed_spec (hp : RightPr p) (h : PF w s0 s1 s2 s5 p f) (hd : Decs p p.lots f) (hT : PF w s0 s1 s2 t5 p T) (hfit : fitsB p T = true) (hdn : I64 dn) (hdd : I64 dd) (hK : ∀ w', Fr F0 w w' -> K (closedB p f dn dd T) w') :
  z1d_sh s0 s1 s2 p.most p.budget s5 dn dd t5 K w := by
 have e0 := h.pv.lots.len
 have e5 := h.tk.len
 have hfin : ∀ w', Fr F0 w w' -> closedB p f dn dd T = true -> K true w' := fun w' hf e => e ▸ hK w' hf
 have hk0 : ∀ {w' db pb}, Mem w w' [(db, rrC dn dd), (pb, prC s0 s1 s2 p.most p.budget)] -> (crowdB p f = false /\ leastOf p f <= p.budget) -> (f.length = p.lots.length -> betterR p f T = true) -> z1d_k0 s5 t5 ⟨pb, 0, none⟩ ⟨db, 0, none⟩ K w' := fun m h1 h2 =>
  closed_k0 hp h hT hfit hdn hdd m fun w' hf => by
   have hk := hK w' hf
   have e : closedB p f dn dd T = boundB p f dn dd T := by
    unfold closedB
    rw [h1.1, decide_eq_false (by omega)]
    by_cases hl : f.length = p.lots.length
    ·rw [h2 hl]; simp
    ·rw [decide_eq_false hl]; simp
   rw [e] at hk
   exact hk
 have m : Mem w w [] := Mem.nil
 refine ⟨?_⟩
 unfold z1d_sd
 intro w1; have m : Mem w w1 _ := m.allocL; clear_value w1
 intro w2; have m : Mem w w2 _ := m.allocL; clear_value w2
 intro w3; have m : Mem w w3 _ := m.drew; clear_value w3
 refine ⟨fun u => Rs u _, m.sub 0 rfl, ?_⟩
 refine ⟨_, fun _ h => h.ld 1 rfl rfl, ?_⟩
 refine ⟨_, fun _ h => h.ld 1 rfl rfl, ?_⟩
 refine ⟨_, fun _ h => h.ld 1 rfl rfl, ?_⟩
 refine ⟨_, fun _ h => h.ld 1 rfl rfl, ?_⟩
 refine ⟨_, fun _ h => h.ld 1 rfl rfl, ?_⟩
 refine refCrowded_spec hp (h.fr m.1) hd fun w10 hf => ?_; have m := m.fr hf
 refine ⟨m.sub 0 rfl, ?_⟩
 refine cnd_iff.2 ⟨fun hc1 => ?_, fun hc1 => ?_⟩
 ·exact hfin _ m.1 (by first | (unfold closedB; rw [hc1]; rfl) | (unfold closedB; rw [decide_eq_true (show p.budget < leastOf p f by omega)]; simp; done) | (unfold closedB; rw [decide_eq_true (show f.length = p.lots.length by omega), hc4]; simp))
 ·refine ⟨_, fun _ h => h.ld 1 rfl rfl, ?_⟩
  refine ⟨_, fun _ h => h.ld 1 rfl rfl, ?_⟩
  refine ⟨_, fun _ h => h.ld 1 rfl rfl, ?_⟩
  refine ⟨_, fun _ h => h.ld 1 rfl rfl, ?_⟩
  refine ⟨_, fun _ h => h.ld 1 rfl rfl, ?_⟩
  refine ⟨_, fun _ h => h.ld 1 rfl rfl, ?_⟩
  refine refLeast_spec hp (h.fr m.1) hd fun w18 hf => ?_; have m := m.fr hf
  refine ⟨m.sub 0 rfl, ?_⟩
  refine cnd_prop.2 ⟨fun hc2 => ?_, fun hc2 => ?_⟩
  ·exact hfin _ m.1 (by first | (unfold closedB; rw [hc1]; rfl) | (unfold closedB; rw [decide_eq_true (show p.budget < leastOf p f by omega)]; simp; done) | (unfold closedB; rw [decide_eq_true (show f.length = p.lots.length by omega), hc4]; simp))
  ·refine ⟨_, m.ld 1 rfl rfl, ?_⟩
   refine cnd_beq.2 ⟨fun hc3 => ?_, fun hc3 => ?_⟩
   ·refine ⟨_, m.ld 1 rfl rfl, ?_⟩
    refine ⟨_, m.ld 1 rfl rfl, ?_⟩
    refine ⟨_, m.ld 1 rfl rfl, ?_⟩
    refine ⟨_, m.ld 1 rfl rfl, ?_⟩
    refine ⟨_, m.ld 1 rfl rfl, ?_⟩
    refine refBetter_spec (h.fr m.1) (hT.fr m.1) fun w26 hf => ?_; have m := m.fr hf
    refine cnd_iff.2 ⟨fun hc4 => ?_, fun hc4 => ?_⟩
    ·exact hfin _ m.1 (by first | (unfold closedB; rw [hc1]; rfl) | (unfold closedB; rw [decide_eq_true (show p.budget < leastOf p f by omega)]; simp; done) | (unfold closedB; rw [decide_eq_true (show f.length = p.lots.length by omega), hc4]; simp))
    ·exact hk0 m ⟨hc1, by omega⟩ (fun hl => by first | (exact absurd (show (s5.l : Int) = s0.l by omega) hc3) | simpa using hc4)
   ·exact hk0 m ⟨hc1, by omega⟩ (fun hl => by first | (exact absurd (show (s5.l : Int) = s0.l by omega) hc3) | simpa using hc4)
end
end Go.Proofs.YtmkjcheafdionaaGreat
