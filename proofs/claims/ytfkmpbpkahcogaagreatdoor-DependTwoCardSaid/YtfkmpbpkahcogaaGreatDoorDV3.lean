/- The reference: Uses. Conditions: none. -/
import Derived.Test.YtfkmpbpkahcogaaGreatDoorDV2
namespace Pw
open Go
theorem Vw.lt {α : Type} {n : Nat} {enc : α -> List Value} {w : World} {s : Sl} {l : List α} (h : Vw n enc w s l) (hn : ∀ a, (enc a).length = n) (hn0 : 0 < n) (hl : l ≠ []) : ∀ b, inB s b -> b < w.heap.size := by
 intro b ⟨a, ha, hb⟩
 cases l with
 | nil => exact absurd rfl hl
 | cons x l =>
  obtain ⟨ad, hp, hc⟩ := h.at hn (i := 0) (a := x) rfl hn0
  rw [ha] at hp
  cases hp
  subst hb
  have hv := hc 0 _ (List.getElem?_eq_getElem (by rw [hn]; exact hn0))
  unfold World.cell? at hv
  rw [add_block, add_block] at hv
  rcases Nat.lt_or_ge a.block w.heap.size with h' | h'
  ·exact h'
  ·rw [Array.getElem?_eq_none h'] at hv
   cases hv
end Pw
namespace Go.Proofs.YtfkmpbpkahcogaaGreatDoor
open Go Pw Dp
structure NW (v u : World) (nm s : Sl) (N W : List B) : Prop where
 ow : Mk v 1 encB u s W
 nv : Vw 1 encB u nm N
 ap : N ≠ [] -> ∀ b, inB nm b -> b < u.heap.size /\ ¬ inB s b
section
variable {v w u w' : World} {nm s s' all : Sl} {N W A : List B} {x : T43} {t : Td} {tb : Nat} {c : B}
theorem NW.fr (h : NW v w nm s N W) (hf : Fr F0 w u) : NW v u nm s N W :=
 ⟨h.ow.fr hf, h.nv.fr hf, fun hn b hb => ⟨Nat.lt_of_lt_of_le (h.ap hn b hb).1 hf.1, (h.ap hn b hb).2⟩⟩
theorem NW.push {a : B} {cs : Array Value} {e e' : Nat} {K : SW} (h : NW v w nm s N W) (hc : cs = (encB a).toArray) (hm : W.length <= 2 ^ 40)
  (hK : ∀ r w', NW v w' nm r N (W ++ [a]) -> K r w') : apS 1 16 [(Value.string (str []))] e s ⟨some ⟨w.heap.size, 0, none⟩, 1, 1⟩ (w.alloc (Obj.cells cs e')) K := by
 have f : Fr F0 w (w.alloc (Obj.cells cs e')) := Fr.alloc
 have h' := h.fr f
 refine h'.ow.ow.app (m := [a]) (Vw.new rfl hc) encB_ok rfl (by simp; omega) (by simp; omega) fun r w' ho hf hi => hK r w' ?_
 have hin : ∀ b, inB r b -> inB s b \/ w.heap.size <= b := fun b hb => (hi b hb).imp id fun h => Nat.le_trans f.1 h
 refine ⟨⟨h'.ow.fr0.nb hf h'.ow.nw, ho, fun b hb => ?_⟩, ?_, fun hn b hb => ⟨Nat.lt_of_lt_of_le (h'.ap hn b hb).1 hf.1, fun hr => ?_⟩⟩
 ·rcases hin b hb with h1 | h1
  ·exact h.ow.nw b h1
  ·exact Nat.le_trans h.ow.fr0.1 h1
 ·cases N with
  | nil => exact ⟨h'.nv.len, h'.nv.cap, by have := h'.nv.len; rw [show (([] : List B).flatMap encB) = [] from rfl]; unfold rdC; rw [this]; simp; cases nm.p <;> trivial⟩
  | cons a N => exact h'.nv.frF hf fun b hb => (h'.ap (by simp) b hb).2
 ·rcases hin b hr with h1 | h1
  ·exact (h.ap hn b hb).2 h1
  ·have := (h.ap hn b hb).1
   omega
theorem rUses_l13_spec {K : Sl -> World -> Prop} (ha : Vw 1 encB w all A) (hw : Vw 1 encB w s W) (hl : A.length <= 2 ^ 40) (hl' : W.length <= 2 ^ 41) (hK : ∀ w' s', Mk w 1 encB w' s' (A.filter fun o => decide (o ∈ W)) -> K s' w') : z1l_l13 all s ⟨none, 0, 0⟩ 0 K w := by
 have el := ha.len
 refine ⟨⟨fun out i u => ∃ i' : Nat, i = i' /\ i' <= A.length /\ Mk w 1 encB u out ((A.take i').filter fun o => decide (o ∈ W)), fun _ i _ => A.length - i.toNat, ⟨0, rfl, by omega, Mk.nil Fr.refl⟩, ?_⟩⟩
 rintro out i u ⟨i, rfl, hi, hu⟩
 unfold z1l_b13
 have hlen := hu.len
 have hlen2 : out.l <= i := by rw [hlen]; exact Nat.le_trans (List.length_filter_le _ _) (by simp; omega)
 have hv := ha.fr hu.fr0
 refine cnd_prop.2 ⟨fun hlt => ?_, fun hge => ?_⟩
 ·have hil : i < A.length := by omega
  have et : A.take (i + 1) = A.take i ++ [A[i]] := by rw [List.take_add_one, List.getElem?_eq_getElem hil]; rfl
  refine ldB hv i rfl hil (rhas_spec (hw.fr hu.fr0) (by omega) (cnd_iff.2 ⟨fun h => ?_, fun h => ?_⟩))
  ·refine ldB hv i rfl hil ?_
   refine hu.push (a := A[i]) rfl rfl encB_ok rfl (by omega) (by omega) fun s6 w7 h7 _ => ⟨inR64 (by omega) (by omega), ⟨⟨rfl, rfl, trivial⟩, i + 1, by omega, by omega, ?_⟩, by dsimp only; omega⟩
   rw [et, List.filter_append, List.filter_cons, if_pos h]
   exact h7
  ·refine ⟨inR64 (by omega) (by omega), ⟨⟨rfl, rfl, trivial⟩, i + 1, by omega, by omega, ?_⟩, by dsimp only; omega⟩
   rw [et, List.filter_append, List.filter_cons, if_neg (by rw [h]; decide), List.filter_nil, List.append_nil]
   exact hu
 ·have : i = A.length := by omega
  subst this
  rw [List.take_length] at hu
  exact hK u out hu
theorem rUses_k12_spec {K : Sl -> World -> Prop} (ha : Vw 1 encB v all A) (hm : Mk v 1 encB w s W) (hl : A.length <= 2 ^ 40) (hl' : W.length <= 2 ^ 41) (hK : ∀ w' s', Mk v 1 encB w' s' (A.filter fun o => decide (o ∈ W)) -> K s' w') : z1l_k12 all s K w :=
 ⟨rUses_l13_spec (ha.fr hm.fr0) hm.vw hl hl' fun w' s' h => hK w' s' ⟨hm.fr0.t h.fr0, h.ow, fun b hb => Nat.le_trans hm.fr0.1 (h.nw b hb)⟩⟩
def comL (L : List (List Int)) : List B := L.flatMap fun l => l.map lotC
theorem comL_len {L : List (List Int)} (h : ∀ l ∈ L, l.length <= 2 ^ 20) : (comL L).length <= L.length * 2 ^ 20 := by
 induction L with
 | nil => simp [comL]
 | cons a L ih =>
  have h1 := ih fun l hl => h l (List.mem_cons_of_mem _ hl)
  have h2 := h a (List.mem_cons_self ..)
  have e : comL (a :: L) = a.map lotC ++ comL L := rfl
  rw [e, List.length_append, List.length_map, List.length_cons, Nat.add_mul]
  omega
theorem rUses_l10_spec {K : Sl -> World -> Prop} (hx : TP v x t) (hF : Fit t) (hC : (comL t.combos).length <= 2 ^ 40) (ht : Row v tb x.cs) (ha : Vw 1 encB v all A) (hm : Mk v 1 encB w s W) (hl : A.length <= 2 ^ 40) (hl' : W.length <= 2 ^ 36)
  (hK : ∀ w' s', Mk v 1 encB w' s' (A.filter fun o => decide (o ∈ W ++ comL t.combos)) -> K s' w') : z1l_l10 ⟨tb, 0, none⟩ all s 0 K w := by
 obtain ⟨Z, hZ, hzl, hz⟩ := hx.combos
 have h20 := hF.combos
 have e13 : (x.f13.l : Int) = (t.combos.length : Int) := by rw [hZ.len, hzl]
 have hpre : ∀ L' : List (List Int), L' <+: t.combos -> (comL L').length <= (comL t.combos).length := fun L' ⟨r, hr⟩ => by
  rw [← hr]
  unfold comL
  rw [List.flatMap_append, List.length_append]
  omega
 refine ⟨⟨fun s' k u => ∃ k' : Nat, k = k' /\ k' <= t.combos.length /\ Mk v 1 encB u s' (W ++ comL (t.combos.take k')), fun _ k _ => t.combos.length - k.toNat, ⟨0, rfl, by omega, by simpa [comL] using hm⟩, ?_⟩⟩
 rintro s' k u ⟨k, rfl, hk, hu⟩
 unfold z1l_b10
 have hr := hu.fr0.row ht fun h => h
 refine ⟨x.f13, hr.at (i := 13) rfl, ?_⟩
 rw [e13]
 refine cnd_prop.2 ⟨fun hlt => ?_, fun hge => ?_⟩
 ·have hkl : k < t.combos.length := by omega
  have hkz : k < Z.length := by omega
  obtain ⟨c1, c2⟩ := hF.combo _ (List.getElem_mem hkl)
  have hzk := hz k hkz hkl
  have ezk := hzk.len
  have hp1 := hpre (t.combos.take (k + 1)) (List.take_prefix _ _)
  have et : t.combos.take (k + 1) = t.combos.take k ++ [t.combos[k]] := by rw [List.take_add_one, List.getElem?_eq_getElem hkl]; rfl
  have ec : comL (t.combos.take (k + 1)) = comL (t.combos.take k) ++ t.combos[k].map lotC := by
   rw [et]
   unfold comL
   rw [List.flatMap_append]
   simp
  rw [ec, List.length_append, List.length_map] at hp1
  refine ⟨⟨fun s' j u => ∃ j' : Nat, j = j' /\ j' <= t.combos[k].length /\ Mk v 1 encB u s' (W ++ comL (t.combos.take k) ++ (t.combos[k].take j').map lotC), fun _ j _ => t.combos[k].length - j.toNat, ⟨0, rfl, by omega, by simpa using hu⟩, ?_⟩⟩
  rintro s' j u ⟨j, rfl, hj, hu⟩
  unfold z1l_b11
  have hr := hu.fr0.row ht fun h => h
  have hZu := hZ.fr hu.fr0
  have hlen : ((t.combos[k].take j).map lotC).length <= t.combos[k].length := by simp; omega
  refine ⟨x.f13, hr.at (i := 13) rfl, ldZ hZu k rfl hkz ?_⟩
  refine cnd_prop.2 ⟨fun hlt => ?_, fun hge => ?_⟩
  ·have hjl : j < t.combos[k].length := by omega
   refine ⟨x.f13, hr.at (i := 13) rfl, ldZ hZu k rfl hkz (ldI (hzk.fr hu.fr0) j rfl hjl ?_)⟩
   refine rLot_spec (c2 _ (List.getElem_mem hjl)) fun w8 hf8 => ?_
   refine (hu.fr hf8).push (a := lotC t.combos[k][j]) rfl rfl encB_ok rfl (by simp only [List.length_append]; omega) (by simp only [List.length_append]; omega) fun s2 w2 h2 _ => ⟨inR64 (by omega) (by omega), ⟨⟨rfl, rfl, rfl, trivial⟩, j + 1, by omega, by omega, ?_⟩, by dsimp only; omega⟩
   rw [take_snoc lotC _ hjl, ← List.append_assoc]
   exact h2
  ·have : j = t.combos[k].length := by omega
   subst this
   rw [List.take_length, List.append_assoc, ← ec] at hu
   exact ⟨inR64 (by omega) (by omega), ⟨⟨rfl, rfl, trivial⟩, k + 1, by omega, by omega, hu⟩, by dsimp only; omega⟩
 ·have : k = t.combos.length := by omega
  subst this
  rw [List.take_length] at hu
  exact rUses_k12_spec ha hu hl (by rw [List.length_append]; omega) hK
theorem rUses_k9_spec {K : Sl -> World -> Prop} (hx : TP v x t) (hF : Fit t) (hC : (comL t.combos).length <= 2 ^ 40) (ht : Row v tb x.cs) (ha : Vw 1 encB v all A) (hm : Mk v 1 encB w s W) (hl : A.length <= 2 ^ 40) (hl' : W.length <= 2 ^ 36)
  (hK : ∀ w' s', Mk v 1 encB w' s' (A.filter fun o => decide (o ∈ W ++ (if c = wCombos then comL t.combos else []))) -> K s' w') : z1l_k9 (ofL c) ⟨tb, 0, none⟩ all s K w := by
 refine ⟨?_⟩
 unfold z1l_k9d
 rw [show decide (ofL c = str [99, 111, 109, 98, 111, 115]) = decide (c = wCombos) from ofL_dec c wCombos]
 refine cnd_prop.2 ⟨fun h => ?_, fun h => ?_⟩
 ·rw [if_pos h] at hK
  exact rUses_l10_spec hx hF hC ht ha hm hl hl' hK
 ·rw [if_neg h, List.append_nil] at hK
  exact rUses_k12_spec ha hm hl (by omega) hK
theorem rUses_k8_spec {K : Sl -> World -> Prop} (hx : TP v x t) (hF : Fit t) (hC : (comL t.combos).length <= 2 ^ 40) (ht : Row v tb x.cs) (ha : Vw 1 encB v all A) (hm : Mk v 1 encB w s W) (hl : A.length <= 2 ^ 40) (hl' : W.length <= 2 ^ 35)
  (hK : ∀ w' s', Mk v 1 encB w' s' (A.filter fun o => decide (o ∈ W ++ ((if c = wBudget then [wCombos] else []) ++ (if c = wCombos then comL t.combos else [])))) -> K s' w') : z1l_k8 (ofL c) ⟨tb, 0, none⟩ all s K w := by
 refine ⟨?_⟩
 unfold z1l_k8d
 rw [show decide (ofL c = str [98, 117, 100, 103, 101, 116]) = decide (c = wBudget) from ofL_dec c wBudget]
 refine cnd_prop.2 ⟨fun h => ?_, fun h => ?_⟩
 ·rw [if_pos h] at hK
  refine hm.push (a := wCombos) rfl rfl encB_ok rfl (by omega) (by omega) fun s2 w2 h2 _ => rUses_k9_spec hx hF hC ht ha h2 hl (by simp; omega) ?_
  rw [List.append_assoc]
  exact hK
 ·rw [if_neg h, List.nil_append] at hK
  exact rUses_k9_spec hx hF hC ht ha hm hl (by omega) hK
theorem rUses_k6_spec {K : Sl -> World -> Prop} (hx : TP v x t) (hF : Fit t) (hC : (comL t.combos).length <= 2 ^ 40) (ht : Row v tb x.cs) (ha : Vw 1 encB v all A) (hm : Mk v 1 encB w s W) (hl : A.length <= 2 ^ 40) (hl' : W.length <= 2 ^ 34)
  (hK : ∀ w' s', Mk v 1 encB w' s' (A.filter fun o => decide (o ∈ W ++ (t.lots.map (fun l => lotC l.1) ++ ((if c = wBudget then [wCombos] else []) ++ (if c = wCombos then comL t.combos else []))))) -> K s' w') : z1l_k6 (ofL c) ⟨tb, 0, none⟩ all s K w := by
 have h20 := hF.lots
 have e1 : (x.f1.l : Int) = (t.lots.length : Int) := by rw [hx.lots.len]
 refine ⟨⟨⟨fun s' i u => ∃ i' : Nat, i = i' /\ i' <= t.lots.length /\ Mk v 1 encB u s' (W ++ (t.lots.take i').map fun l => lotC l.1), fun _ i _ => t.lots.length - i.toNat, ⟨0, rfl, by omega, by simpa using hm⟩, ?_⟩⟩⟩
 rintro s' i u ⟨i, rfl, hi, hu⟩
 unfold z1l_b7
 have hr := hu.fr0.row ht fun h => h
 refine ⟨x.f1, hr.at (i := 1) rfl, ?_⟩
 rw [e1]
 refine cnd_prop.2 ⟨fun hlt => ?_, fun hge => ?_⟩
 ·have hil : i < t.lots.length := by omega
  refine ⟨x.f1, hr.at (i := 1) rfl, Vw.go encL_length (by decide) (hx.lots.fr hu.fr0) i rfl hil fun _ hc => ⟨_, hc 0 _ rfl, ?_⟩⟩
  refine rLot_spec (hF.lot _ (List.getElem_mem hil)).1 fun w8 hf8 => ?_
  refine (hu.fr hf8).push (a := lotC t.lots[i].1) rfl rfl encB_ok rfl (by simp; omega) (by simp; omega) fun s2 w2 h2 _ => ⟨inR64 (by omega) (by omega), ⟨⟨rfl, rfl, rfl, trivial⟩, i + 1, by omega, by omega, ?_⟩, by dsimp only; omega⟩
  rw [take_snoc (fun l => lotC l.1) _ hil, ← List.append_assoc]
  exact h2
 ·have : i = t.lots.length := by omega
  subst this
  rw [List.take_length] at hu
  refine rUses_k8_spec hx hF hC ht ha hu hl (by simp; omega) ?_
  rw [List.append_assoc]
  exact hK
theorem rUses_k5_spec {K : Sl -> World -> Prop} (hx : TP v x t) (hF : Fit t) (hC : (comL t.combos).length <= 2 ^ 40) (ht : Row v tb x.cs) (ha : Vw 1 encB v all A) (hm : Mk v 1 encB w s W) (hl : A.length <= 2 ^ 40) (hl' : W.length <= 2 ^ 34)
  (hK : ∀ w' s', Mk v 1 encB w' s' (A.filter fun o => decide (o ∈ W ++ ((if c = wMost \/ c = wBudget then t.lots.map (fun l => lotC l.1) else []) ++ ((if c = wBudget then [wCombos] else []) ++ (if c = wCombos then comL t.combos else []))))) -> K s' w') : z1l_k5 (ofL c) ⟨tb, 0, none⟩ all s K w := by
 refine ⟨?_⟩
 unfold z1l_k5d
 rw [show decide (ofL c = str [98, 117, 100, 103, 101, 116]) = decide (c = wBudget) from ofL_dec c wBudget, show decide (ofL c = str [109, 111, 115, 116]) = decide (c = wMost) from ofL_dec c wMost]
 refine cnd_prop.2 ⟨fun h => ?_, fun h => cnd_prop.2 ⟨fun h' => ?_, fun h' => ?_⟩⟩
 ·rw [if_pos (Or.inl h)] at hK
  exact rUses_k6_spec hx hF hC ht ha hm hl hl' hK
 ·rw [if_pos (Or.inr h')] at hK
  exact rUses_k6_spec hx hF hC ht ha hm hl hl' hK
 ·rw [if_neg (by simp [h, h']), List.nil_append] at hK
  exact rUses_k8_spec hx hF hC ht ha hm hl (by omega) hK
def namW (c : B) (N : List B) : List B := N.flatMap fun n => critC n :: if n = wPrice \/ (n = wLow /\ c = wForm) then [wRange] else []
theorem namW_len (c : B) (N : List B) : (namW c N).length <= 2 * N.length := by
 induction N with
 | nil => simp [namW]
 | cons a N ih =>
  have e : namW c (a :: N) = (critC a :: if a = wPrice \/ (a = wLow /\ c = wForm) then [wRange] else []) ++ namW c N := rfl
  rw [e, List.length_append, List.length_cons, List.length_cons]
  split <;> simp <;> omega
theorem rUses_k2_spec {K : Sl -> World -> Prop} (hx : TP v x t) (hF : Fit t) (hC : (comL t.combos).length <= 2 ^ 40) (ht : Row v tb x.cs) (ha : Vw 1 encB v all A) (hm : NW v w nm s N W) (hl : A.length <= 2 ^ 40) (hl' : W.length <= 2 ^ 20) (hN : N.length <= 2 ^ 31) (hNs : ∀ s ∈ N, s.length <= 2 ^ 30)
  (hK : ∀ w' s', Mk v 1 encB w' s' (A.filter fun o => decide (o ∈ W ++ (namW c N ++ ((if c = wMost \/ c = wBudget then t.lots.map (fun l => lotC l.1) else []) ++ ((if c = wBudget then [wCombos] else []) ++ (if c = wCombos then comL t.combos else [])))))) -> K s' w') : z1l_k2 (ofL c) ⟨tb, 0, none⟩ all s nm K w := by
 have el := hm.nv.len
 refine ⟨⟨⟨fun s' i u => ∃ i' : Nat, i = i' /\ i' <= N.length /\ NW v u nm s' N (W ++ namW c (N.take i')), fun _ i _ => N.length - i.toNat, ⟨0, rfl, by omega, by simpa [namW] using hm⟩, ?_⟩⟩⟩
 rintro s' i u ⟨i, rfl, hi, hu⟩
 unfold z1l_b3
 have hln := namW_len c (N.take i)
 have hlt' : (N.take i).length <= N.length := by simp; omega
 refine cnd_prop.2 ⟨fun hlt => ?_, fun hge => ?_⟩
 ·have hil : i < N.length := by omega
  have hns := hNs _ (List.getElem_mem hil)
  have e1 : namW c (N.take (i + 1)) = namW c (N.take i) ++ (critC N[i] :: if N[i] = wPrice \/ (N[i] = wLow /\ c = wForm) then [wRange] else []) := by
   rw [List.take_add_one, List.getElem?_eq_getElem hil]
   unfold namW
   rw [List.flatMap_append]
   simp
  refine ldB hu.nv i rfl hil ?_
  rw [str_crit, ofL_sz, ofL_sz, ofL_app]
  refine ⟨by unfold maxI; simp [wCrit]; omega, hu.push (a := critC N[i]) rfl (by rw [List.length_append]; omega) fun s2 w2 h2 => ldB h2.nv i rfl hil ?_⟩
  have k4 : (N[i] = wPrice \/ (N[i] = wLow /\ c = wForm)) -> ∀ {N3 : ByteArray -> Addr -> Sl -> Sl -> Sl -> Int -> World -> Prop}, (∀ s3 w3, NW v w3 nm s3 N (W ++ namW c (N.take (i + 1))) -> N3 (ofL c) ⟨tb, 0, none⟩ all s3 nm ((i : Int) + 1) w3) -> z1l_k4 (ofL c) ⟨tb, 0, none⟩ all s2 nm (i : Int) N3 K w2 := fun hp N3 h3 => by
   refine ⟨?_⟩
   unfold z1l_k4d
   refine h2.push (a := wRange) rfl (by simp only [List.length_append, List.length_cons, List.length_nil]; omega) fun s3 w3 g3 => ⟨inR64 (by omega) (by omega), h3 s3 w3 ?_⟩
   rw [e1, if_pos hp, show critC N[i] :: [wRange] = [critC N[i]] ++ [wRange] from rfl, ← List.append_assoc, ← List.append_assoc]
   exact g3
  have nx : ¬ (N[i] = wPrice \/ (N[i] = wLow /\ c = wForm)) -> NW v w2 nm s2 N (W ++ namW c (N.take (i + 1))) := fun hp => by
   rw [e1, if_neg hp, ← List.append_assoc]
   exact h2
  rw [show decide (ofL N[i] = str [112, 114, 105, 99, 101]) = decide (N[i] = wPrice) from ofL_dec _ wPrice]
  refine cnd_prop.2 ⟨fun h => k4 (.inl h) fun s3 w3 g3 => ⟨⟨⟨rfl, rfl, rfl, rfl, trivial⟩, i + 1, by omega, by omega, g3⟩, by dsimp only; omega⟩, fun h => ldB h2.nv i rfl hil ?_⟩
  rw [show decide (ofL N[i] = str [108, 111, 119]) = decide (N[i] = wLow) from ofL_dec _ wLow, show decide (ofL c = str [102, 111, 114, 109, 117, 108, 97]) = decide (c = wForm) from ofL_dec c wForm]
  refine cnd_prop.2 ⟨fun h1 => cnd_prop.2 ⟨fun h2' => k4 (.inr ⟨h1, h2'⟩) fun s3 w3 g3 => ⟨⟨⟨rfl, rfl, rfl, rfl, trivial⟩, i + 1, by omega, by omega, g3⟩, by dsimp only; omega⟩, fun h2' => ?_⟩, fun h1 => ?_⟩
  ·exact ⟨inR64 (by omega) (by omega), ⟨⟨rfl, rfl, rfl, rfl, trivial⟩, i + 1, by omega, by omega, nx (by simp [h, h2'])⟩, by dsimp only; omega⟩
  ·exact ⟨inR64 (by omega) (by omega), ⟨⟨rfl, rfl, rfl, rfl, trivial⟩, i + 1, by omega, by omega, nx (by simp [h, h1])⟩, by dsimp only; omega⟩
 ·have : i = N.length := by omega
  subst this
  rw [List.take_length] at hu hln
  refine rUses_k5_spec hx hF hC ht ha hu.ow hl (by rw [List.length_append]; omega) ?_
  rw [List.append_assoc]
  exact hK
theorem rUses_k1_spec {K : Sl -> World -> Prop} (hx : TP v x t) (hF : Fit t) (hC : (comL t.combos).length <= 2 ^ 40) (ht : Row v tb x.cs) (ha : Vw 1 encB v all A) (hm : NW v w nm s N W) (hl : A.length <= 2 ^ 40) (hl' : W.length <= 2 ^ 20) (hN : N.length <= 2 ^ 31) (hNs : ∀ s ∈ N, s.length <= 2 ^ 30)
  (hK : ∀ w' s', Mk v 1 encB w' s' (A.filter fun o => decide (o ∈ W ++ ((if c = wTies \/ c = wForm then namW c N else []) ++ ((if c = wMost \/ c = wBudget then t.lots.map (fun l => lotC l.1) else []) ++ ((if c = wBudget then [wCombos] else []) ++ (if c = wCombos then comL t.combos else [])))))) -> K s' w') : z1l_k1 (ofL c) ⟨tb, 0, none⟩ all s nm K w := by
 refine ⟨?_⟩
 unfold z1l_k1d
 rw [show decide (ofL c = str [116, 105, 101, 115]) = decide (c = wTies) from ofL_dec c wTies, show decide (ofL c = str [102, 111, 114, 109, 117, 108, 97]) = decide (c = wForm) from ofL_dec c wForm]
 refine cnd_prop.2 ⟨fun h => ?_, fun h => cnd_prop.2 ⟨fun h' => ?_, fun h' => ?_⟩⟩
 ·rw [if_pos (Or.inl h)] at hK
  exact rUses_k2_spec hx hF hC ht ha hm hl hl' hN hNs hK
 ·rw [if_pos (Or.inr h')] at hK
  exact rUses_k2_spec hx hF hC ht ha hm hl hl' hN hNs hK
 ·rw [if_neg (by simp [h, h']), List.nil_append] at hK
  exact rUses_k5_spec hx hF hC ht ha hm.ow hl (by omega) hK
def reqW (t : Td) (c : B) (n : Nat) : List B := ((List.range n).filter (fun k => decide (c = reqC k))).map (fun k => critC ((t.reqs[k]?.map (·.name)).getD []))
theorem reqW_len (t : Td) (c : B) (n : Nat) : (reqW t c n).length <= n := by
 unfold reqW
 rw [List.length_map]
 exact Nat.le_trans (List.length_filter_le _ _) (by simp)
theorem namesR_len {e : Fm} {s : B} (h : s ∈ e.namesR) : s.length <= 30 := by
 unfold Fm.namesR at h
 split at h
 ·rename_i hr
  have hs : e.sound = true := by
   unfold Fm.right at hr
   simp only [Bool.and_eq_true] at hr
   exact hr.1
  clear hr
  induction e with
  | num n d => simp [Fm.names] at h
  | name r =>
   simp only [Fm.names, List.mem_singleton] at h
   subst h
   simp only [Fm.sound, nameOk, Bool.and_eq_true] at hs
   have := hs.1
   unfold isNameB at this
   split at this
   ·cases this
   ·simp only [Bool.and_eq_true, decide_eq_true_eq] at this
    exact this.1
  | op o a b iha ihb =>
   simp only [Fm.sound, Bool.and_eq_true] at hs
   simp only [Fm.names, List.mem_append] at h
   rcases h with h | h
   ·exact iha h hs.1
   ·exact ihb h hs.2
 ·cases h
theorem rUses_spec {K : Sl -> World -> Prop} (hx : TP w x t) (hF : Fit t) (hK : ∀ w' s', Mk w 1 encB w' s' (uses t c) -> K s' w') : z1l_sh x (ofL c) K w := by
 have h20 := hF.reqs
 have h1 := hF.lots
 have h2 := hF.crit
 have h4 := hF.ties
 have h5 := hF.combos
 have hp := hF.fp
 have hC : (comL t.combos).length <= 2 ^ 40 := by
  have := comL_len (L := t.combos) fun l hl => (hF.combo l hl).1
  omega
 have hcl := clauses_len t
 refine ⟨?_⟩
 unfold z1l_sd
 intro w1
 have m : Mem w w1 [(w.heap.size, x.cs)] := Mem.nil.allocL
 clear_value w1
 refine T43.ld_row (m.row 0 rfl) (rClauses_spec (hx.fr m.1) hF fun v all hall => ?_)
 have F := m.1.t hall.fr0
 refine rhas_spec hall.vw (by omega) (cnd_iff.2 ⟨fun h => ?_, fun h => ?_⟩)
 ·refine hK v _ ?_
  have : c ∉ clauses t := by simpa using h
  unfold uses
  rw [if_neg this]
  exact Mk.nil F
 have hc : c ∈ clauses t := by simpa using h
 have ht : Row v w.heap.size x.cs := hall.fr0.row (m.row 0 rfl) fun h => h
 have hxv := hx.fr F
 have e3 : (x.f3.l : Int) = (t.reqs.length : Int) := by rw [hx.reqs.len]
 refine ⟨⟨fun s' i u => ∃ i' : Nat, i = i' /\ i' <= t.reqs.length /\ Mk v 1 encB u s' (reqW t c i'), fun _ i _ => t.reqs.length - i.toNat, ⟨0, rfl, by omega, Mk.nil Fr.refl⟩, ?_⟩⟩
 rintro s' i u ⟨i, rfl, hi, hu⟩
 unfold z1l_b0
 have hr := hu.fr0.row ht fun h => h
 have hwl := reqW_len t c i
 refine ⟨x.f3, hr.at (i := 3) rfl, ?_⟩
 rw [e3]
 refine cnd_prop.2 ⟨fun hlt => ?_, fun hge => ?_⟩
 ·have hil : i < t.reqs.length := by omega
  have h64 : I64 ((i : Int) + 1) := ⟨by omega, by omega⟩
  have := itoa_len' h64
  have hn20 := (hF.rq _ (List.getElem_mem hil)).1
  refine ⟨inR64 (by omega) (by omega), rdecimal_spec h64 fun w8 f8 => ?_⟩
  rw [str_req, ofL_sz, ofL_sz, ofL_app, ofL_dec]
  refine ⟨by unfold maxI; simp [wReq]; omega, cnd_prop.2 ⟨fun he => ?_, fun he => ?_⟩⟩
  ·have he : c = reqC i := he
   refine ⟨x.f3, (f8.row hr fun h => h).at (i := 3) rfl, Vw.go encR_length (by decide) (hxv.reqs.fr (hu.fr0.t f8)) i rfl hil fun _ hc => ⟨_, hc 0 _ rfl, ?_⟩⟩
   rw [str_crit, ofL_sz, ofL_sz, ofL_app]
   refine ⟨by unfold maxI; simp [wCrit]; omega, (hu.fr f8).push (a := critC t.reqs[i].name) rfl rfl encB_ok rfl (by omega) (by omega) fun s2 w2 g2 _ => ⟨inR64 (by omega) (by omega), ⟨⟨rfl, rfl, rfl, trivial⟩, i + 1, by omega, by omega, ?_⟩, by dsimp only; omega⟩⟩
   have e : reqW t c (i + 1) = reqW t c i ++ [critC t.reqs[i].name] := by
    unfold reqW
    rw [List.range_succ, List.filter_append, List.map_append, List.filter_cons, if_pos (decide_eq_true he)]
    simp [hil]
   rw [e]
   exact g2
  ·refine ⟨inR64 (by omega) (by omega), ⟨⟨rfl, rfl, rfl, trivial⟩, i + 1, by omega, by omega, ?_⟩, by dsimp only; omega⟩
   have e : reqW t c (i + 1) = reqW t c i := by
    unfold reqW
    have : ¬ decide (c = reqC i) = true := fun h => he (of_decide_eq_true h)
    rw [List.range_succ, List.filter_append, List.filter_cons, if_neg this, List.filter_nil, List.append_nil]
   rw [e]
   exact hu.fr f8
 ·have : i = t.reqs.length := by omega
  subst this
  refine ⟨_, hr.at (i := 6) rfl, _, hr.at (i := 7) rfl, _, hr.at (i := 8) rfl, _, hr.at (i := 9) rfl, x.f10, hr.at (i := 10) rfl, ?_⟩
  refine rNames_spec (c := ⟨x.f6, x.f7, x.f8, x.f9, x.f10⟩) (hxv.fm.fr hu.fr0) (by omega) fun w21 r22 N f21 v21 n21 hN hNl => ?_
  have hu21 := hu.fr f21
  have lst : ∀ b, inB s' b -> b < u.heap.size := fun b hb => hu.ow.lt' hb
  have fin : ∀ w' s'', Mk v 1 encB w' s'' ((clauses t).filter fun o => decide (o ∈ reqW t c t.reqs.length ++ ((if c = wTies \/ c = wForm then namW c (if c = wTies then t.ties else N) else []) ++ ((if c = wMost \/ c = wBudget then t.lots.map (fun l => lotC l.1) else []) ++ ((if c = wBudget then [wCombos] else []) ++ (if c = wCombos then comL t.combos else [])))))) -> K s'' w' := fun w' s'' h => by
   refine hK w' s'' ?_
   rw [← uses_ref hN hc]
   exact ⟨F.t h.fr0, h.ow, fun b hb => Nat.le_trans F.1 (h.nw b hb)⟩
  rw [show decide (ofL c = str [116, 105, 101, 115]) = decide (c = wTies) from ofL_dec c wTies]
  refine cnd_prop.2 ⟨fun h => ?_, fun h => ?_⟩
  ·rw [if_pos h] at fin
   refine ⟨x.f11, (f21.row hr fun h => h).at (i := 11) rfl, ?_⟩
   refine rUses_k1_spec hxv hF hC ht hall.vw ⟨hu21, hxv.ties.fr hu21.fr0, fun hne b hb => ?_⟩ (by omega) (by omega) (by omega) (fun s hs => by have := hF.tie s hs; omega) fin
   have := hxv.ties.lt encB_length (by decide) hne b hb
   have h3 := hu21.fr0.1
   exact ⟨by omega, fun hs => by have := hu.nw b hs; omega⟩
  ·rw [if_neg h] at fin
   refine rUses_k1_spec hxv hF hC ht hall.vw ⟨hu21, v21, fun hne b hb => ?_⟩ (by omega) (by omega) (by omega) (fun s hs => by have := namesR_len ((hN s).1 hs); omega) fin
   have := v21.lt encB_length (by decide) hne b hb
   exact ⟨this, fun hs => by have := lst b hs; have := n21 b hb; omega⟩
end
end Go.Proofs.YtfkmpbpkahcogaaGreatDoor
