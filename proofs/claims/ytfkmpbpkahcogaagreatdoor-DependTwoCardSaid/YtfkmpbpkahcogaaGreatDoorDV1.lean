/- The reference: has, Lot, Clauses. Conditions: none. -/
import Derived.Test.YtfkmpbpkahcogaaGreatDoorDC2
import Derived.Test.YtfkmpbpkahcogaaGreatDoorRXY
import Derived.Test.YtfkmpbpkahcogaaGreatDoorRXX
import Derived.Test.YtfkmpbpkahcogaaGreatDoorCG1
namespace Go.Proofs.YtfkmpbpkahcogaaGreatDoor
open Go Pw Dp
section
variable {w0 w w' : World} {L L' : List (Nat × List Value)} {s s' : Sl} {l : List B} {x : T43} {t : Td}
theorem rhas_spec {v : B} {K : Bool -> World -> Prop} (hv : Vw 1 encB w s l) (hl : l.length < 2 ^ 62) (hK : K (decide (v ∈ l)) w) : z20_sh s (ofL v) K w := by
 have el := hv.len
 refine ⟨?_⟩
 unfold z20_sd
 refine ⟨⟨fun i u => ∃ i' : Nat, i = i' /\ i' <= l.length /\ u = w /\ ∀ j (h : j < l.length), j < i' -> l[j] ≠ v, fun i _ => l.length - i.toNat, ⟨0, rfl, by omega, rfl, fun j _ h => by omega⟩, ?_⟩⟩
 rintro i u ⟨i, rfl, hi, rfl, hb⟩
 unfold z20_b0
 refine cnd_prop.2 ⟨fun hlt => ?_, fun hge => ?_⟩
 ·have hil : i < l.length := by omega
  refine ldB hv i rfl hil ?_
  rw [ofL_dec]
  refine cnd_prop.2 ⟨fun h => ?_, fun h => ⟨inR64 (by omega) (by omega), ⟨⟨rfl, rfl, trivial⟩, i + 1, by omega, by omega, rfl, fun j hjl hj => ?_⟩, by dsimp only; omega⟩⟩
  ·rw [decide_eq_true (h ▸ List.getElem_mem hil)] at hK
   exact hK
  ·rcases Nat.lt_or_ge j i with h' | h'
   ·exact hb j hjl h'
   ·have : j = i := by omega
    subst this
    exact h
 ·have : v ∉ l := fun hm => by
   obtain ⟨j, hj, e⟩ := List.mem_iff_getElem.1 hm
   exact hb j hj (by omega) e
  rw [decide_eq_false this] at hK
  exact hK
theorem rhas3_spec {v : B} {K : Bool -> World -> Prop} (hv : Vw 1 encB w s l) (hl : l.length < 2 ^ 62) (hK : K (decide (v ∈ l)) w) : z1x_sh s (ofL v) K w := by
 have el := hv.len
 refine ⟨?_⟩
 unfold z1x_sd
 refine ⟨⟨fun i u => ∃ i' : Nat, i = i' /\ i' <= l.length /\ u = w /\ ∀ j (h : j < l.length), j < i' -> l[j] ≠ v, fun i _ => l.length - i.toNat, ⟨0, rfl, by omega, rfl, fun j _ h => by omega⟩, ?_⟩⟩
 rintro i u ⟨i, rfl, hi, rfl, hb⟩
 unfold z1x_b0
 refine cnd_prop.2 ⟨fun hlt => ?_, fun hge => ?_⟩
 ·have hil : i < l.length := by omega
  refine ldB hv i rfl hil ?_
  rw [ofL_dec]
  refine cnd_prop.2 ⟨fun h => ?_, fun h => ⟨inR64 (by omega) (by omega), ⟨⟨rfl, rfl, trivial⟩, i + 1, by omega, by omega, rfl, fun j hjl hj => ?_⟩, by dsimp only; omega⟩⟩
  ·rw [decide_eq_true (h ▸ List.getElem_mem hil)] at hK
   exact hK
  ·rcases Nat.lt_or_ge j i with h' | h'
   ·exact hb j hjl h'
   ·have : j = i := by omega
    subst this
    exact h
 ·have : v ∉ l := fun hm => by
   obtain ⟨j, hj, e⟩ := List.mem_iff_getElem.1 hm
   exact hb j hj (by omega) e
  rw [decide_eq_false this] at hK
  exact hK
theorem rLot_spec {id : Int} {K : ByteArray -> World -> Prop} (h : I64 id) (hK : ∀ w', Fr F0 w w' -> K (ofL (lotC id)) w') : z1z_sh id K w := by
 refine ⟨?_⟩
 unfold z1z_sd
 have := itoa_len' h
 refine rdecimal_spec h fun w1 hf1 => ?_
 rw [str_lot, ofL_sz, ofL_sz, ofL_app]
 exact ⟨by unfold maxI; simp [wLot]; omega, hK w1 hf1⟩
variable {tb : Nat}
theorem rClauses_l3_spec {K : Sl -> World -> Prop} {all : Sl} {A : List B} (hw : Fr F0 w0 w) (ha : Ow 1 encB w all A) (hl : A.length <= 2 ^ 30) (hn : ∀ b, inB all b -> w0.heap.size <= b) (hK : ∀ w' s', Mk w0 1 encB w' s' (A.foldl addB []) -> K s' w') : z0i_l3 all ⟨none, 0, 0⟩ 0 K w := by
 have el := ha.len
 have hlt : ∀ b, inB all b -> b < w.heap.size := fun b hb => ha.lt' hb
 refine ⟨⟨fun out i u => ∃ i' : Nat, i = i' /\ i' <= A.length /\ Mk w 1 encB u out ((A.take i').foldl addB []), fun _ i _ => A.length - i.toNat, ⟨0, rfl, by omega, Mk.nil Fr.refl⟩, ?_⟩⟩
 rintro out i u ⟨i, rfl, hi, hu⟩
 unfold z0i_b3
 have hlen := foldB_len (A.take i) []
 simp only [List.length_take, List.length_nil] at hlen
 have hv := (ha.fr hu.fr0).vw
 refine cnd_prop.2 ⟨fun hlt => ?_, fun hge => ?_⟩
 ·have hil : i < A.length := by omega
  refine ldB hv i rfl hil (rhas_spec hu.vw (by omega) (cnd_iff.2 ⟨fun h => ?_, fun h => ?_⟩))
  ·have hn : A[i] ∉ (A.take i).foldl addB [] := by simpa using h
   refine ldB hv i rfl hil ?_
   refine hu.push (a := A[i]) rfl rfl encB_ok rfl (by omega) (by omega) fun s6 w7 h7 _ => ⟨inR64 (by omega) (by omega), ⟨⟨rfl, trivial⟩, i + 1, by omega, by omega, ?_⟩, by dsimp only; omega⟩
   rw [List.take_add_one, List.getElem?_eq_getElem hil, List.foldl_append]
   rw [← addB_new hn] at h7
   exact h7
  ·have hn : A[i] ∈ (A.take i).foldl addB [] := by simpa using h
   refine ⟨inR64 (by omega) (by omega), ⟨⟨rfl, trivial⟩, i + 1, by omega, by omega, ?_⟩, by dsimp only; omega⟩
   rw [List.take_add_one, List.getElem?_eq_getElem hil, List.foldl_append]
   rw [← addB_in hn] at hu
   exact hu
 ·have : i = A.length := by omega
  subst this
  rw [List.take_length] at hu
  exact hK u out ⟨hw.t hu.fr0, hu.ow, fun b hb => Nat.le_trans hw.1 (hu.nw b hb)⟩
theorem rClauses_l2_spec {K : Sl -> World -> Prop} (hx : TP w0 x t) (hF : Fit t) (h : SpB w0 w [(tb, x.cs)] s l) (hl : l.length <= 2 ^ 26)
  (hK : ∀ w' s', Mk w0 1 encB w' s' ((l ++ (List.range t.reqs.length).map reqC ++ fixed).foldl addB []) -> K s' w') : z0i_l2 ⟨tb, 0, none⟩ s 0 K w := by
 have h20 := hF.reqs
 have e3 : (x.f3.l : Int) = (t.reqs.length : Int) := by rw [hx.reqs.len]
 refine ⟨⟨fun s' i u => ∃ i' : Nat, i = i' /\ i' <= t.reqs.length /\ SpB w0 u [(tb, x.cs)] s' (l ++ (List.range i').map reqC), fun _ i _ => t.reqs.length - i.toNat, ⟨0, rfl, by omega, by simpa using h⟩, ?_⟩⟩
 rintro s' i u ⟨i, rfl, hi, hu⟩
 unfold z0i_b2
 refine ⟨x.f3, hu.ld (i := 3) 0 rfl rfl, ?_⟩
 rw [e3]
 refine cnd_prop.2 ⟨fun hlt => ?_, fun hge => ?_⟩
 ·have h64 : I64 ((i : Int) + 1) := ⟨by omega, by omega⟩
  have := itoa_len' h64
  refine ⟨inR64 (by omega) (by omega), rdecimal_spec h64 fun w1 hf1 => ?_⟩
  rw [str_req, ofL_sz, ofL_sz, ofL_app]
  refine ⟨by unfold maxI; simp [wReq]; omega, (hu.fr hf1).push (a := reqC i) rfl rfl encB_ok rfl (by simp; omega) (by simp; omega) fun s2 w2 h2 => ⟨inR64 (by omega) (by omega), ⟨⟨rfl, trivial⟩, i + 1, by omega, by omega, ?_⟩, by dsimp only; omega⟩⟩
  rw [List.range_succ, List.map_append, ← List.append_assoc]
  exact h2
 ·have : i = t.reqs.length := by omega
  subst this
  intro w1
  have h1 : SpB w0 w1 ((u.heap.size, _) :: [(tb, x.cs)]) s' _ := hu.allocL (vs := fixed.flatMap encB)
  clear_value w1
  refine h1.app (m := fixed) (Row.ow encB_length (h1.row 0 rfl)).vw encB_ok rfl (by simp [fixed]; omega) (by simp [fixed]; omega) fun s2 w2 h2 => ?_
  exact rClauses_l3_spec h2.m.1 h2.ow (by simp [fixed]; omega) (fun b hb => (h2.os b hb).1) hK
theorem rClauses_l1_spec {K : Sl -> World -> Prop} (hx : TP w0 x t) (hF : Fit t) (h : SpB w0 w [(tb, x.cs)] s l) (hl : l.length <= 2 ^ 24)
  (hK : ∀ w' s', Mk w0 1 encB w' s' ((l ++ t.crit.map (fun c => critC c.name) ++ (List.range t.reqs.length).map reqC ++ fixed).foldl addB []) -> K s' w') : z0i_l1 ⟨tb, 0, none⟩ s 0 K w := by
 have h20 := hF.crit
 have e3 : (x.f2.l : Int) = (t.crit.length : Int) := by rw [hx.crit.len]
 refine ⟨⟨fun s' i u => ∃ i' : Nat, i = i' /\ i' <= t.crit.length /\ SpB w0 u [(tb, x.cs)] s' (l ++ (t.crit.take i').map (fun c => critC c.name)), fun _ i _ => t.crit.length - i.toNat, ⟨0, rfl, by omega, by simpa using h⟩, ?_⟩⟩
 rintro s' i u ⟨i, rfl, hi, hu⟩
 unfold z0i_b1
 refine ⟨x.f2, hu.ld (i := 2) 0 rfl rfl, ?_⟩
 rw [e3]
 refine cnd_prop.2 ⟨fun hlt => ?_, fun hge => ?_⟩
 ·have hil : i < t.crit.length := by omega
  have hn20 := (hF.cr _ (List.getElem_mem hil)).1
  refine ⟨x.f2, hu.ld (i := 2) 0 rfl rfl, Vw.go encC_length (by decide) (hx.crit.fr hu.m.1) i rfl hil fun _ hc => ⟨_, hc 0 _ rfl, ?_⟩⟩
  rw [str_crit, ofL_sz, ofL_sz, ofL_app]
  refine ⟨by unfold maxI; simp [wCrit]; omega, hu.push (a := critC t.crit[i].name) rfl rfl encB_ok rfl (by simp; omega) (by simp; omega) fun s2 w2 h2 => ⟨inR64 (by omega) (by omega), ⟨⟨rfl, trivial⟩, i + 1, by omega, by omega, ?_⟩, by dsimp only; omega⟩⟩
  rw [List.take_add_one, List.getElem?_eq_getElem hil, List.map_append, ← List.append_assoc]
  exact h2
 ·have : i = t.crit.length := by omega
  subst this
  rw [List.take_length] at hu
  exact rClauses_l2_spec hx hF hu (by simp; omega) hK
theorem rClauses_spec {K : Sl -> World -> Prop} (hx : TP w x t) (hF : Fit t) (hK : ∀ w' s', Mk w 1 encB w' s' (clauses t) -> K s' w') : z0i_sh x K w := by
 have h20 := hF.lots
 have e1 : (x.f1.l : Int) = (t.lots.length : Int) := by rw [hx.lots.len]
 refine ⟨?_⟩
 unfold z0i_sd
 intro w1
 have m : Mem w w1 [(w.heap.size, x.cs)] := Mem.nil.allocL
 clear_value w1
 intro w2
 have m : Mem w w2 ((w1.heap.size, [wName].flatMap encB) :: _) := m.allocL
 clear_value w2
 have hpw := m.2.2.1
 have hge := m.2.2.2
 have h4 : SpB w w2 [(w.heap.size, x.cs)] ⟨some ⟨w1.heap.size, 0, none⟩, 1, 1⟩ [wName] := by
  refine SpB.of (m.subl (.cons _ (List.Sublist.refl _))) (Row.ow encB_length (l := [wName]) (m.row 0 rfl)) fun b ⟨a, ha, hb⟩ => ?_
  cases ha
  subst hb
  simp only [List.map_cons, List.map_nil, List.pairwise_cons, List.mem_cons, List.not_mem_nil, or_false, forall_eq] at hpw
  refine ⟨hge _ List.mem_cons_self, fun p hp => ?_⟩
  simp only [List.mem_cons, List.not_mem_nil, or_false] at hp
  subst hp
  have := hpw.1
  simp only
  omega
 refine ⟨⟨fun s' i u => ∃ i' : Nat, i = i' /\ i' <= t.lots.length /\ SpB w u [(w.heap.size, x.cs)] s' ([wName] ++ (t.lots.take i').map fun l => lotC l.1), fun _ i _ => t.lots.length - i.toNat, ⟨0, rfl, by omega, by simpa using h4⟩, ?_⟩⟩
 rintro s' i u ⟨i, rfl, hi, hu⟩
 unfold z0i_b0
 refine ⟨x.f1, hu.ld (i := 1) 0 rfl rfl, ?_⟩
 rw [e1]
 refine cnd_prop.2 ⟨fun hlt => ?_, fun hge => ?_⟩
 ·have hil : i < t.lots.length := by omega
  refine ⟨x.f1, hu.ld (i := 1) 0 rfl rfl, Vw.go encL_length (by decide) (hx.lots.fr hu.m.1) i rfl hil fun _ hc => ⟨_, hc 0 _ rfl, ?_⟩⟩
  refine rLot_spec (hF.lot _ (List.getElem_mem hil)).1 fun w8 hf8 => ?_
  refine (hu.fr hf8).push (a := lotC t.lots[i].1) rfl rfl encB_ok rfl (by simp; omega) (by simp; omega) fun s2 w2 h2 => ⟨inR64 (by omega) (by omega), ⟨⟨rfl, trivial⟩, i + 1, by omega, by omega, ?_⟩, by dsimp only; omega⟩
  rw [List.take_add_one, List.getElem?_eq_getElem hil, List.map_append, ← List.append_assoc]
  exact h2
 ·have : i = t.lots.length := by omega
  subst this
  rw [List.take_length] at hu
  refine rClauses_l1_spec hx hF hu (by simp; omega) fun w' s2 h2 => hK w' s2 ?_
  rw [← clauses_all]
  have e : [wName] ++ List.map (fun l => lotC l.fst) t.lots ++ List.map (fun c => critC c.name) t.crit ++ List.map reqC (List.range t.reqs.length) ++ fixed = heads t ++ fixed := by
   unfold heads
   simp
  rw [← e]
  exact h2
end
end Go.Proofs.YtfkmpbpkahcogaaGreatDoor



