/- The reference's options, best and Best: what trying all takes answers. Conditions: none. -/
import Derived.Test.YtmkjcheafdionaaGreatCF2
namespace Go.Proofs.YtmkjcheafdionaaGreat
open Go Pw
theorem optsFrom_app {lot : Int} {c : Ch} : ∀ (l : List Ch) (i : Nat), optsFrom lot i (l ++ [c]) = optsFrom lot i l ++ (if c.lot = lot then [((i + l.length : Nat) : Int)] else [])
 | [], i => by simp [optsFrom]
 | d :: l, i => by
  rw [List.cons_append, optsFrom, optsFrom, optsFrom_app l (i + 1)]
  have e : i + 1 + l.length = i + (d :: l).length := by simp; omega
  rw [e]
  split <;> simp
section
variable {w wB : World} {s t s0 s1 s2 s5 t5 : Sl} {a b l f g : List Int} {p : Pr} {pb : Nat}
theorem refoptions_mk {k : Nat} {K : Sl -> World -> Prop} (h : PV w s0 s1 s2 p) (hk : k < p.lots.length) (hK : ∀ w' s, Mk w 1 (ie .i64 (id : Int -> Int)) w' s (opts p p.lots[k]) -> K s w') : z12_sh s0 s1 s2 p.most p.budget k K w := by
 have e0 := h.lots.len
 have e1 := h.ch.len
 have hl1 := h.l1
 have hl0 := h.l0
 refine ⟨?_⟩
 unfold z12_sd
 intro w1
 have m : Mem w w1 _ := Mem.nil.allocL (cs := prC s0 s1 s2 p.most p.budget)
 clear_value w1
 intro w2
 have h2 : Sp w w2 _ _ _ _ _ _ _ := Sp.one (α := Int) (n := 1) (enc := ie .i64 (id : Int -> Int)) (a := -1) (fun a => ie_length _ _ a) m
 clear_value w2
 refine ⟨⟨fun out i w' => ∃ i' : Nat, i = i' /\ i' <= p.ch.length /\ Sp w w' [(w.heap.size, prC s0 s1 s2 p.most p.budget)] (fun _ => False) (fun _ => True) 1 (ie .i64 (id : Int -> Int)) out (-1 :: optsFrom p.lots[k] 0 (p.ch.take i')), fun _ i _ => p.ch.length - i.toNat, ⟨0, rfl, by omega, h2⟩, ?_⟩⟩
 rintro out i w3 ⟨i, rfl, hi, h3⟩
 unfold z12_b0
 refine ⟨s1, h3.ld 0 rfl rfl, ?_⟩
 rw [cnd_prop]
 refine ⟨fun hlt => ?_, fun hge => ?_⟩
 ·have hic : i < p.ch.length := by omega
  have hts := take_succ' hic
  have hlen : (optsFrom p.lots[k] 0 (p.ch.take i)).length <= i := by
   rw [optsFrom_len]
   have := List.countP_le_length (p := fun c : Ch => c.lot == p.lots[k]) (l := p.ch.take i)
   simp at this
   omega
  have hap : -1 :: optsFrom p.lots[k] 0 (p.ch.take (i + 1)) = (-1 :: optsFrom p.lots[k] 0 (p.ch.take i)) ++ (if p.ch[i].lot = p.lots[k] then [(i : Int)] else []) := by
   rw [hts, optsFrom_app]
   simp only [List.length_take, List.cons_append]
   rw [show 0 + min i p.ch.length = i by omega]
  intro w4
  have h4 : Sp w w4 _ _ _ _ _ _ _ := h3.drew
  clear_value w4
  have hp4 := h.fr h4.m.1
  refine ⟨s1, h4.ld 0 rfl rfl, VC.ld hp4.ch i rfl hic fun x hc => ?_⟩
  obtain ⟨c0, _, _, _⟩ := hc w4 Fr.refl
  refine ⟨_, c0, s0, h4.ld 0 rfl rfl, VI.ld hp4.lots k rfl hk ?_⟩
  rw [cnd_beq]
  refine ⟨fun he => ?_, fun hne => ?_⟩
  ·rw [if_pos he] at hap
   intro w5
   refine h4.push (a := (i : Int)) rfl rfl (ie_ok _ _) rfl (by simp; omega) (by simp; omega) fun r w6 h6 => ?_
   rw [← hap] at h6
   exact ⟨inR64 (by omega) (by omega), ⟨⟨rfl, rfl, trivial⟩, i + 1, by omega, by omega, h6⟩, by dsimp only; omega⟩
  ·rw [if_neg hne, List.append_nil] at hap
   rw [← hap] at h4
   exact ⟨inR64 (by omega) (by omega), ⟨⟨rfl, rfl, trivial⟩, i + 1, by omega, by omega, h4⟩, by dsimp only; omega⟩
 ·have : i = p.ch.length := by omega
  subst this
  rw [List.take_length] at h3
  exact hK w3 out ⟨h3.m.1, h3.ow, fun b hb => (h3.os b hb).1⟩
end
end Go.Proofs.YtmkjcheafdionaaGreat
