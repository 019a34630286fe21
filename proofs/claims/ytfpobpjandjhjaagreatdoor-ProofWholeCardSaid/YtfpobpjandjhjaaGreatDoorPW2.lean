/- Nodes that grow: rows of variables, slices that are read, the nodes; they lie apart. Conditions: none. -/
import Derived.Test.YtfpobpjandjhjaaGreatDoorPW1
import Derived.Test.YtfpobpjandjhjaaGreatDoorPB1
import Derived.Test.YtfpobpjandjhjaaGreatDoorProg
import Derived.KernelRfl
import Derived.Test.YtfpobpjandjhjaaGreatDoorPwY
import Derived.Test.YtfpobpjandjhjaaGreatDoorCG0
import Derived.Test.YtfpobpjandjhjaaGreatDoorCG1
import Derived.Test.YtfpobpjandjhjaaGreatDoorCG2
import Derived.Test.YtfpobpjandjhjaaGreatDoorCG5
import Derived.Test.YtfpobpjandjhjaaGreatDoorPG1
import Derived.Test.YtfpobpjandjhjaaGreatDoorPG2
import Derived.Test.YtfpobpjandjhjaaGreatDoorPG3
import Derived.Test.YtfpobpjandjhjaaGreatDoorPG4
namespace Go.Proofs.YtfpobpjandjhjaaGreatDoor
open Go Pw
abbrev nilS : Sl := ⟨none, 0, 0⟩
structure G (wB u : World) (l : List (Nat × List Value)) (R : List (Sl × List Int)) (ns : Sl) (cs : List NdC) (N : List Nd) : Prop where
 m : Mem wB u l
 o : OwR wB u nilS [] ns cs N
 a : ∀ p ∈ l, ¬ blk nilS ns cs p.1
 r : ∀ x ∈ R, VI u x.1 x.2
 rb : ∀ x ∈ R, ∀ b, inB x.1 b -> b < u.heap.size /\ ¬ blk nilS ns cs b /\ ∀ p ∈ l, p.1 ≠ b
section
variable {wB u u' : World} {l : List (Nat × List Value)} {R : List (Sl × List Int)} {ns : Sl} {cs : List NdC} {N : List Nd}
theorem G.fr (h : G wB u l R ns cs N) (hf : Fr F0 u u') : G wB u' l R ns cs N :=
 ⟨h.m.fr hf, h.o.fr hf, h.a, fun x hx => (h.r x hx).fr hf, fun x hx b hb => ⟨Nat.lt_of_lt_of_le (h.rb x hx b hb).1 hf.1, (h.rb x hx b hb).2⟩⟩
theorem G.blt (h : G wB u l R ns cs N) {b : Nat} (hb : blk nilS ns cs b) : b < u.heap.size := h.o.lt b hb
theorem G.dR {Q : List (Sl × List Int)} (h : G wB u l R ns cs N) (hq : ∀ x ∈ Q, x ∈ R) : G wB u l Q ns cs N :=
 ⟨h.m, h.o, h.a, fun x hx => h.r x (hq x hx), fun x hx => h.rb x (hq x hx)⟩
theorem G.add {s : Sl} {x : List Int} (h : G wB u l R ns cs N) (hs : Mk u 1 (ie .i64 (id : Int -> Int)) u' s x) : G wB u' l ((s, x) :: R) ns cs N := by
 have h' := h.fr hs.fr0
 refine ⟨h'.m, h'.o, h'.a, fun y hy => ?_, fun y hy b hb => ?_⟩
 ·rcases List.mem_cons.1 hy with rfl | hy
  ·exact hs.vw
  ·exact h'.r y hy
 ·rcases List.mem_cons.1 hy with rfl | hy
  ·have hn := hs.nw b hb
   exact ⟨hs.ow.lt' hb, fun hc => by have := h.blt hc; omega, fun p hp e => by have := (h.m.2.1 p hp).lt; omega⟩
  ·exact h'.rb y hy b hb
theorem G.setRow {b j i : Nat} {vs : List Value} {v : Value} (h : G wB u l R ns cs N) (hj : l[j]? = some (b, vs)) : G wB (u.setCell ⟨b, i, none⟩ v) (l.set j (b, vs.set i v)) R ns cs N := by
 have hmem := List.mem_of_getElem? hj
 have hf : Fr (fun c => c = b) u (u.setCell ⟨b, i, none⟩ v) := Fr.set rfl
 refine ⟨h.m.set j hj, h.o.frF hf fun c hc e => h.a _ hmem (e ▸ hc), fun p hp => ?_, fun x hx => (h.r x hx).frF hf fun c hc e => (h.rb x hx c hc).2.2 _ hmem e.symm, fun x hx c hc => ⟨Nat.lt_of_lt_of_le (h.rb x hx c hc).1 hf.1, (h.rb x hx c hc).2.1, fun p hp => ?_⟩⟩
 ·obtain ⟨q, hq, e⟩ := mem_set_fst hj hp
  exact e ▸ h.a q hq
 ·obtain ⟨q, hq, e⟩ := mem_set_fst hj hp
  exact e ▸ (h.rb x hx c hc).2.2 q hq
theorem G.push {c : NdC} {n : Nd} {zero : List Value} {e e' : Nat} {K : SW} (h : G wB u l R ns cs N) (hn : (c.lot = n.lot /\ c.num = n.num /\ c.den = n.den) /\ c.nx = nilS /\ n.next = [] /\ I64 n.num /\ I64 n.den) (hz : zero.length = 4) (hb : (cs.length + 1) * 48 <= 2 ^ 47)
  (hK : ∀ r u', G wB u' l R r (cs ++ [c]) (N ++ [n]) -> K r u') : apS 4 48 zero e ns ⟨some ⟨u.heap.size, 0, none⟩, 1, 1⟩ (u.alloc (Obj.cells (encN c).toArray e')) K := by
 obtain ⟨hn1, hn2, hn3, hn4, hn5⟩ := hn
 have hf : Fr F0 u (u.alloc (Obj.cells (encN c).toArray e')) := Fr.alloc
 have h' := h.fr hf
 have hcl := h.o.len
 have hcb : ∀ b, ¬ inB c.nx b := fun b hb => by rw [hn2] at hb; obtain ⟨a, ha, _⟩ := hb; cases ha
 refine h'.o.nds.app (m := [c]) (Vw.new rfl rfl) encN_ok hz (by simpa using hb) (by simp; omega) fun r u2 ho hf2 hi => hK r u2 ?_
 have hin : ∀ b, inB r b -> inB ns b \/ u.heap.size <= b := fun b hb => (hi b hb).imp_right fun h => Nat.le_trans hf.1 h
 have hmem : ∀ d ∈ cs ++ [c], d ∈ cs \/ d = c := fun d hd => by
  rcases List.mem_append.1 hd with h | h
  ·exact .inl h
  ·exact .inr (List.mem_singleton.1 h)
 have hblk : ∀ b, blk nilS r (cs ++ [c]) b -> blk nilS ns cs b \/ u.heap.size <= b := fun b hb => by
  rcases hb with ⟨a, ha, _⟩ | hb | ⟨d, hd, hb⟩
  ·cases ha
  ·exact (hin b hb).imp_left fun h => .inr (.inl h)
  ·rcases hmem d hd with hd | rfl
   ·exact .inl (.inr (.inr ⟨d, hd, hb⟩))
   ·exact absurd hb (hcb b)
 have hns : ∀ b, inB ns b -> blk nilS ns cs b := fun b hb => .inr (.inl hb)
 refine ⟨h'.m.frF hf2 (fun p hp hc => h.a p hp (hns _ hc)) fun b hb => h.o.nw b (hns b hb), ⟨⟨rfl, by simpa using OwnV.nil⟩, ho, by simp [hcl], fun i d m hd hm => ?_, fun b hb => ?_, fun b ⟨a, ha, _⟩ => (by cases ha), fun d _ b ⟨a, ha, _⟩ => (by cases ha), fun d hd b hb => ?_, ?_⟩, fun p hp hc => ?_, fun x hx => (h'.r x hx).frF hf2 fun b hb hc => (h.rb x hx b hb).2.1 (hns b hc), fun x hx b hb => ⟨Nat.lt_of_lt_of_le (h'.rb x hx b hb).1 hf2.1, fun hc => ?_, (h.rb x hx b hb).2.2⟩⟩
 ·rcases Nat.lt_or_ge i cs.length with hil | hil
  ·rw [List.getElem?_append_left hil] at hd
   rw [List.getElem?_append_left (by omega)] at hm
   have := h'.o.nd i d m hd hm
   exact ⟨this.1, this.2.1.frF hf2 fun b hb hc => h.o.nc d (List.mem_of_getElem? hd) b hc hb, this.2.2⟩
  ·rw [List.getElem?_append_right hil] at hd
   rw [List.getElem?_append_right (by omega)] at hm
   have e0 : i - cs.length = 0 := by
    have := (List.getElem?_eq_some_iff.1 hd).1
    simp at this
    omega
   rw [e0] at hd
   rw [show i - N.length = 0 by omega] at hm
   simp at hd hm
   subst hd hm
   exact ⟨hn1, by rw [hn2, hn3]; exact ⟨rfl, by simpa using OwnV.nil⟩, hn4, hn5⟩
 ·rcases hblk b hb with hb | hb
  ·exact h.o.nw b hb
  ·exact Nat.le_trans h.m.1.1 hb
 ·rcases hmem d hd with hd | rfl
  ·rcases hin b hb with hb | hb
   ·exact h.o.nc d hd b hb
   ·intro hc
    have := h.blt (.inr (.inr ⟨d, hd, hc⟩))
    omega
  ·exact hcb b
 ·rw [List.pairwise_append]
  refine ⟨h.o.cc, List.pairwise_singleton .., fun d _ d' hd' b _ => ?_⟩
  rw [List.mem_singleton] at hd'
  subst hd'
  exact hcb b
 ·rcases hblk _ hc with hc | hc
  ·exact h.a p hp hc
  ·have := (h.m.2.1 p hp).lt; omega
 ·rcases hblk _ hc with hc | hc
  ·exact (h.rb x hx b hb).2.1 hc
  ·have := (h.rb x hx b hb).1; omega
theorem G.appNx {i nb : Nat} {x : Int} {xs : Sl} {K : SW} (h : G wB u l R ns cs N) (hi : i < cs.length) (hiN : i < N.length) (hnp : ns.p = some ⟨nb, 0, none⟩) (hx : Vw 1 (ie .i64 (id : Int -> Int)) u xs [x]) (hl : N[i].next.length < 2 ^ 40)
  (hK : ∀ s w', Rs w' l -> Vw 4 encN w' ns cs -> wrOk w' ⟨nb, i * 4 + 3, none⟩ -> G wB (w'.setCell ⟨nb, i * 4 + 3, none⟩ (.slice s.p s.l s.c)) l R ns (cs.set i { cs[i] with nx := s }) (N.set i { N[i] with next := N[i].next ++ [x] }) -> K s w') :
  apS 1 8 [.int .i64 0] 3 cs[i].nx xs u K := by
 have hnd := h.o.nd i _ _ (List.getElem?_eq_getElem hi) (List.getElem?_eq_getElem hiN)
 have hnb : inB ns nb := ⟨_, hnp, rfl⟩
 have hcm := List.getElem_mem hi
 have cxb : ∀ b, inB cs[i].nx b -> blk nilS ns cs b := fun b hb => .inr (.inr ⟨_, hcm, hb⟩)
 have cxn : ∀ b, inB cs[i].nx b -> ¬ inB ns b := fun b hb hc => h.o.nc _ hcm b hc hb
 refine hnd.2.1.app hx (ie_ok _ _) rfl (by simp; omega) (by simp; omega) fun s w' ho f hin => ?_
 have hm' := h.m.frF f (fun p hp hc => h.a p hp (cxb _ hc)) fun b hb => h.o.nw b (cxb b hb)
 have ho4 : Ow 4 encN w' ns cs := h.o.nds.frF f fun b hb hc => cxn b hc hb
 obtain ⟨nb', hnp', hnq⟩ := Ow.nodeAt ho4 (List.getElem?_eq_getElem hi)
 rw [hnp] at hnp'
 cases hnp'
 obtain ⟨hw, hds⟩ := hnq 3 (by decide)
 have f2 : Fr (fun c => c = nb) w' (w'.setCell ⟨nb, i * 4 + 3, none⟩ (.slice s.p s.l s.c)) := Fr.set rfl
 have hds' : Ow 4 encN (w'.setCell ⟨nb, i * 4 + 3, none⟩ (.slice s.p s.l s.c)) ns (cs.set i { cs[i] with nx := s }) := hds (.slice s.p s.l s.c) { cs[i] with nx := s } rfl
 refine hK s w' (fun p hp => hm'.2.1 p hp) ho4.vw hw ?_
 generalize w'.setCell ⟨nb, i * 4 + 3, none⟩ (.slice s.p s.l s.c) = v at f2 hds' ⊢
 have hnbu : nb < u.heap.size := h.o.nds.lt' hnb
 have sn : ∀ b, inB s b -> inB cs[i].nx b \/ u.heap.size <= b := hin
 have hblk : ∀ b, blk nilS ns (cs.set i { cs[i] with nx := s }) b -> blk nilS ns cs b \/ u.heap.size <= b := fun b hb => by
  rcases hb with ⟨a, ha, _⟩ | hb | ⟨d, hd, hb⟩
  ·cases ha
  ·exact .inl (.inr (.inl hb))
  ·rcases List.mem_or_eq_of_mem_set hd with hd | rfl
   ·exact .inl (.inr (.inr ⟨d, hd, hb⟩))
   ·exact (sn b hb).imp_left (cxb b)
 have hpw := List.pairwise_iff_getElem.1 h.o.cc
 have apart : ∀ j (hj : j < cs.length), j ≠ i -> ∀ b, inB cs[j].nx b -> ¬ inB cs[i].nx b := fun j hj hne b hb hb' => by
  rcases Nat.lt_or_gt_of_ne hne with h | h
  ·exact hpw j i hj hi h b hb hb'
  ·exact hpw i j hi hj h b hb' hb
 have hns3 : ∀ b, inB ns b -> ¬ inB s b := fun b hb hc => by
  rcases sn b hc with h' | h'
  ·exact cxn b h' hb
  ·have := h.o.nds.lt' hb; omega
 refine ⟨hm'.frF f2 (fun p hp hc => h.a p hp (hc ▸ .inr (.inl hnb))) (fun b hb => hb ▸ h.o.nw nb (.inr (.inl hnb))), ⟨⟨rfl, by simpa using OwnV.nil⟩, hds', by simp [h.o.len], fun j d m hd hm => ?_, fun b hb => ?_, fun b ⟨a, ha, _⟩ => (by cases ha), fun d _ b ⟨a, ha, _⟩ => (by cases ha), fun d hd b hb => ?_, ?_⟩, fun p hp hc => ?_, fun y hy => ((h.r y hy).frF f fun b hb hc => (h.rb y hy b hb).2.1 (cxb b hc)).frF f2 fun b hb hc => (h.rb y hy b hb).2.1 (hc ▸ .inr (.inl hnb)), fun y hy b hb => ⟨Nat.lt_of_lt_of_le (h.rb y hy b hb).1 (Nat.le_trans f.1 f2.1), fun hc => ?_, (h.rb y hy b hb).2.2⟩⟩
 ·rw [List.getElem?_set] at hd hm
  by_cases hij : i = j
  ·subst hij
   rw [if_pos rfl, if_pos hi] at hd
   rw [if_pos rfl, if_pos hiN] at hm
   cases hd
   cases hm
   exact ⟨hnd.1, ho.frF f2 fun b hb hc => hns3 nb hnb (hc ▸ hb), hnd.2.2⟩
  ·rw [if_neg hij] at hd hm
   have := h.o.nd j d m hd hm
   obtain ⟨hj, rfl⟩ := List.getElem?_eq_some_iff.1 hd
   exact ⟨this.1, (this.2.1.frF f fun b hb hc => apart j hj (Ne.symm hij) b hb hc).frF f2 fun b hb hc => h.o.nc _ (List.getElem_mem hj) nb hnb (hc ▸ hb), this.2.2⟩
 ·rcases hblk b hb with hb | hb
  ·exact h.o.nw b hb
  ·exact Nat.le_trans h.m.1.1 hb
 ·rcases List.mem_or_eq_of_mem_set hd with hd | rfl
  ·exact h.o.nc d hd b hb
  ·exact hns3 b hb
 ·rw [List.pairwise_iff_getElem]
  intro j k hj hk hjk b hb hb'
  rw [List.length_set] at hj hk
  rw [List.getElem_set] at hb hb'
  by_cases e1 : i = j
  ·rw [if_pos e1] at hb
   rw [if_neg (by omega)] at hb'
   rcases sn b hb with h1 | h1
   ·exact apart k hk (by omega) b hb' h1
   ·have := h.blt (.inr (.inr ⟨_, List.getElem_mem hk, hb'⟩)); omega
  ·rw [if_neg e1] at hb
   by_cases e2 : i = k
   ·rw [if_pos e2] at hb'
    rcases sn b hb' with h1 | h1
    ·exact apart j hj (Ne.symm e1) b hb h1
    ·have := h.blt (.inr (.inr ⟨_, List.getElem_mem hj, hb⟩)); omega
   ·rw [if_neg e2] at hb'
    exact hpw j k hj hk hjk b hb hb'
 ·rcases hblk _ hc with hc | hc
  ·exact h.a p hp hc
  ·have := (h.m.2.1 p hp).lt; omega
 ·rcases hblk _ hc with hc | hc
  ·exact (h.rb y hy b hb).2.1 hc
  ·have := (h.rb y hy b hb).1; omega
end
end Go.Proofs.YtfpobpjandjhjaaGreatDoor
set_option maxRecDepth 20000
