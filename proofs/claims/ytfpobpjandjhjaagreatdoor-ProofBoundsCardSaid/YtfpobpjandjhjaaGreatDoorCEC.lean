/- The reference's Spoiled: some problem. Conditions: none. -/
import Derived.Test.YtfpobpjandjhjaaGreatDoorCEX
namespace Pw
open Go
section
variable {α : Type} {n : Nat} {enc : α -> List Value} {w0 w : World} {s : Sl} {l : List α} {L : List (Nat × List Value)} {B : Nat -> Prop} {Q : World -> Prop}
theorem Sp.nextE {β : Type} {n' : Nat} {enc' : β -> List Value} {e : TypeId} (hn : ∀ a, (enc' a).length = n') (h : Sp w0 w L B Q n enc s l) :
  Sp w0 (w.alloc (Obj.cells #[] e)) L (fun b => B b \/ inB s b) (fun w => Q w /\ Ow n enc w s l) n' enc' ⟨some ⟨w.heap.size, 0, none⟩, 0, 0⟩ ([] : List β) := by
 have h0 : Sp w0 w L (fun b => B b \/ inB s b) (fun w => Q w /\ Ow n enc w s l) n' enc' ⟨none, 0, 0⟩ ([] : List β) := h.next
 have h1 := h0.fr (Fr.alloc (o := Obj.cells #[] e))
 refine ⟨h1.m, h1.rs, h1.q, h1.ap, Row.ow hn (l := ([] : List β)) Row.new, fun b ⟨a, ha, hb⟩ => ?_⟩
 cases ha
 subst hb
 exact ⟨h.m.1.1, fun hB => by have := (h0.ap _ hB).1; simp only at this; omega, fun p hp e => by have := (h.m.2.1 p hp).lt; simp only at e; omega⟩
theorem addr0 (b k : Nat) : (⟨b, 0, none⟩ : Addr).add k = ⟨b, k, none⟩ := by
 by_cases h0 : k = 0
 ·subst h0; rfl
 ·simp [Addr.add, h0]
end
end Pw
namespace Pw
open Go
section
variable {α : Type} {n : Nat} {enc : α -> List Value} {w0 w u : World} {s : Sl} {l : List α} {L : List (Nat × List Value)} {B : Nat -> Prop} {Q : World -> Prop}
structure Fa (u : World) (L : List (Nat × List Value)) (Q : World -> Prop) (n : Nat) (enc : α -> List Value) (s : Sl) (l : List α) : Prop where
 q : Q u
 ow : Ow n enc u s l
 rs : Rs u L
theorem Sp.far (h : Sp w0 w L B Q n enc s l) (ha : ∀ b, w0.heap.size <= b -> u.heap[b]? = w.heap[b]?) : Fa u L Q n enc s l :=
 ⟨h.rs w u (fun b hb => ha b (h.ap b hb).2.1) h.q, Rests.ow s l w u (fun b hb => ha b (h.os b hb).1) h.ow, fun p hp => by
  have := h.m.2.1 p hp
  have hb := h.m.2.2.2 p hp
  unfold Row at this ⊢
  rw [ha _ hb]
  exact this⟩
theorem Fa.row {b : Nat} {vs : List Value} (h : Fa u L Q n enc s l) (j : Nat) (hj : L[j]? = some (b, vs)) : Row u b vs := h.rs _ (List.mem_of_getElem? hj)
end
end Pw
namespace Go.Proofs.YtfpobpjandjhjaaGreatDoor
open Go Pw
section
variable {w w0 wP : World} {s sL sC sD s0 s1 s2 : Sl} {l0 : List Int} {l1 : List Ch} {dc : List (De × Sl)} {p : Pr} {pb tb qb nb : Nat} {m b n : Int} {L : List (Nat × List Value)}
abbrev IE : Int -> List Value := ie .i64 (id : Int -> Int)
theorem toC (h : Sp w0 w L (fun b => inB sL b \/ inB sC b) (fun u => Ow 1 IE u sL l0 /\ Ow 4 encC u sC l1) 3 encD sD dc) (hd : ∀ b, inB sC b -> ¬ inB sL b) :
  Sp w0 w L (fun b => inB sL b \/ inB sD b) (fun u => Ow 1 IE u sL l0 /\ Ow 3 encD u sD dc) 4 encC sC l1 := h.back (Rests.ow sL l0) hd
theorem toL (h : Sp w0 w L (fun b => inB sL b \/ inB sC b) (fun u => Ow 1 IE u sL l0 /\ Ow 4 encC u sC l1) 3 encD sD dc) (hd : ∀ b, inB sC b -> ¬ inB sL b) :
  Sp w0 w L (fun b => inB sC b \/ inB sD b) (fun u => Ow 4 encC u sC l1 /\ Ow 3 encD u sD dc) 1 IE sL l0 :=
 Sp.back (B := inB sC) (Q := fun u => Ow 4 encC u sC l1) (h.say (C := fun b => inB sC b \/ inB sL b) (Q' := fun u => Ow 4 encC u sC l1 /\ Ow 1 IE u sL l0) ((Rests.ow sC l1).and (Rests.ow sL l0)) (fun _ hb => hb.symm) fun q => ⟨q.2, q.1⟩) (Rests.ow sC l1) fun b hL hC => hd b hC hL
theorem mkPV (h0 : VI w sL l0) (h1 : VC w sC l1) (h2 : VD w sD dc) (hx : ∀ x ∈ dc, VI w x.2 x.1.lots /\ x.1.lots.length < 2 ^ 40) (k0 : l0.length < 2 ^ 40) (k1 : l1.length < 2 ^ 40) (k2 : dc.length < 2 ^ 40) : PV w sL sC sD ⟨l0, l1, dc.map (·.1), m, b⟩ :=
 ⟨h0, h1, ⟨dc, h2, rfl, hx⟩, k0, k1, by simpa using k2⟩
theorem Sk1 {α : Type} {k : Nat} {enc : α -> List Value} {l : List α} {B : Nat -> Prop} {Q : World -> Prop} {jp jt : Nat} {v1 v2 v3 v4 v5 : Value} {K : Sl -> Sl -> Sl -> Int -> Int -> World -> Prop} (h : Sp w0 w L B Q k enc s l) (hp : L[jp]? = some (pb, prC sL sC sD m b)) (ht : L[jt]? = some (tb, [v1, v2, v3, v4, v5]))
  (hK : ∀ u, Sp w0 u (L.set jt (tb, prC sL sC sD m b)) B Q k enc s l -> K sL sC sD m b u) : z0z_k1 ⟨pb, 0, none⟩ ⟨tb, 0, none⟩ K w := by
 refine ⟨?_⟩
 unfold z0z_k1d
 refine ⟨sL, h.ld jp hp rfl, sC, h.ld jp hp rfl, sD, h.ld jp hp rfl, _, h.ld jp hp rfl, _, h.ld jp hp rfl, stN_sp h jt ht rfl fun u h => ?_⟩
 have hlt : jt < L.length := (List.getElem?_eq_some_iff.1 ht).1
 have ht' : (L.set jt (tb, prC sL sC sD m b))[jt]? = some (tb, prC sL sC sD m b) := by simp [hlt]
 exact ⟨sL, h.ld jt ht' rfl, sC, h.ld jt ht' rfl, sD, h.ld jt ht' rfl, _, h.ld jt ht' rfl, _, h.ld jt ht' rfl, hK u h⟩
theorem Spoiled_l0 {q2 : Int} {R Rq : List Value} {v1 v2 v3 v4 v5 : Value} {K : Sl -> Sl -> Sl -> Int -> Int -> World -> Prop} (hl0 : l0.length <= 12) (hl1 : l1.length < 2 ^ 40) (hl2 : dc.length < 2 ^ 40) (hx : ∀ x ∈ dc, VI wP x.2 x.1.lots /\ x.1.lots.length < 2 ^ 40)
  (h : Sp w0 w [(nb, R), (tb, [v1, v2, v3, v4, v5]), (qb, Rq), (pb, prC sL sC sD m b)] (fun b => inB sC b \/ inB sD b) (fun u => Ow 4 encC u sC l1 /\ Ow 3 encD u sD dc) 1 IE sL l0)
  (hK : ∀ w' s0' s1' s2' (p' : Pr), Fr F0 w0 w' -> (∀ u, Fr F0 wP u -> (∀ b, w0.heap.size <= b -> u.heap[b]? = w'.heap[b]?) -> PV u s0' s1' s2' p') -> K s0' s1' s2' p'.most p'.budget w') : z0z_l0 ⟨pb, 0, none⟩ ⟨tb, 0, none⟩ q2 0 K w := by
 refine ⟨⟨fun i w' => ∃ (i' : Nat) (sL : Sl) (l0 : List Int), i = i' /\ i' <= 20 /\ l0.length <= 12 + i' /\ Sp w0 w' [(nb, R), (tb, [v1, v2, v3, v4, v5]), (qb, Rq), (pb, prC sL sC sD m b)] (fun b => inB sC b \/ inB sD b) (fun u => Ow 4 encC u sC l1 /\ Ow 3 encD u sD dc) 1 IE sL l0,
  fun i _ => 20 - i.toNat, ⟨0, sL, l0, rfl, by omega, by omega, h⟩, ?_⟩⟩
 clear h hl0
 rintro i w1 ⟨i, sL, l0, rfl, hi, hl0, h⟩
 unfold z0z_b0
 intro w2
 have h : Sp w0 w2 _ _ _ _ _ _ _ := h.drew
 clear_value w2
 have hlen := h.ow.vw.len
 refine ⟨fun u => Row u pb (prC sL sC sD m b), h.row 3 rfl, sL, fun u hu => hu.at rfl, Mod_spec (by decide) (by decide) ?_⟩
 have r1 := Int.emod_nonneg q2 (show (3 : Int) ≠ 0 by decide)
 have r2 := Int.emod_lt_of_pos q2 (show (0 : Int) < 3 by decide)
 refine ⟨h.row 3 rfl, inR64 (by omega) (by omega), inR64 (by omega) (by omega), inR64 (by omega) (by omega), ?_⟩
 rw [cnd_prop]
 refine ⟨fun hlt => ⟨sL, h.ld 3 rfl rfl, inR64 (by omega) (by omega), ?_⟩, fun hge => ?_⟩
 ·intro w3
  refine h.push (a := 100 + (i : Int)) rfl rfl (ie_ok _ _) rfl (by omega) (by omega) fun r w4 h => ?_
  refine ⟨h.wr 3 rfl rfl, ?_⟩
  intro w5
  have h : Sp w0 w5 [(nb, R), (tb, [v1, v2, v3, v4, v5]), (qb, Rq), (pb, prC r sC sD m b)] _ _ _ _ _ _ := h.set (i := 0) (v := .slice r.p r.l r.c) 3 rfl
  clear_value w5
  exact ⟨inR64 (by omega) (by omega), ⟨⟨rfl, rfl, rfl, trivial⟩, i + 1, r, _, by omega, by omega, by simp; omega, h⟩, by dsimp only; omega⟩
 ·exact Sk1 (jp := 3) (jt := 1) h rfl rfl fun u h => hK u _ _ _ ⟨l0, l1, dc.map (·.1), m, b⟩ h.m.1 fun v hv ha => have h := h.far ha; mkPV h.ow.vw h.q.1.vw h.q.2.vw (fun x hx' => ⟨(hx x hx').1.fr hv, (hx x hx').2⟩) (by omega) hl1 hl2
theorem Spoiled_apart {q0 q1 q2 : Int} {K : Sl -> Sl -> Sl -> Int -> Int -> World -> Prop} (hp : RightPr p) (hP0 : PV wP s0 s1 s2 p) (hf0 : Fr F0 wP w)
  (hK : ∀ w' s0' s1' s2' (p' : Pr), Fr F0 w w' -> (∀ u, Fr F0 wP u -> (∀ b, w.heap.size <= b -> u.heap[b]? = w'.heap[b]?) -> PV u s0' s1' s2' p') -> K s0' s1' s2' p'.most p'.budget w') : z0z_sh s0 s1 s2 p.most p.budget q0 q1 q2 K w := by
 have g0 := hp.few
 have g0' := hp.some
 have g1 := hp.chs
 have g2 := hp.des
 have hP := hP0.fr hf0
 obtain ⟨dc, hd0, hm, hx⟩ := hP0.de
 have hd := hd0.fr hf0
 have hlm : dc.length = p.de.length := by rw [← hm, List.length_map]
 refine ⟨?_⟩
 unfold z0z_sd
 intro w1
 have M : Mem w w1 _ := Mem.nil.allocL (cs := prC s0 s1 s2 p.most p.budget)
 clear_value w1
 intro w2
 have M : Mem w w2 _ := M.allocL (cs := [.int .i64 q0, .int .i64 q1, .int .i64 q2])
 clear_value w2
 intro w3
 have M : Mem w w3 _ := M.allocL (cs := [.slice none 0 0, .slice none 0 0, .slice none 0 0, .int .i64 0, .int .i64 0])
 clear_value w3
 intro w4
 have h : Sp w w4 _ _ _ _ _ _ _ := Sp.empty (α := Int) (n := 1) (enc := IE) (fun a => ie_length _ _ a) M
 clear_value w4
 refine ⟨s0, h.ld 2 rfl rfl, h.app (hP.lots.fr h.m.1) (ie_ok _ _) rfl (by simp; omega) (by simp; omega) fun sL w7 h => ?_⟩
 rw [List.nil_append] at h
 refine ⟨h.wr 2 rfl rfl, ?_⟩
 intro w8
 have h : Sp w w8 [(w2.heap.size, [.slice none 0 0, .slice none 0 0, .slice none 0 0, .int .i64 0, .int .i64 0]), (w1.heap.size, [.int .i64 q0, .int .i64 q1, .int .i64 q2]), (w.heap.size, prC sL s1 s2 p.most p.budget)] _ _ _ _ _ _ := h.set (i := 0) (v := .slice sL.p sL.l sL.c) 2 rfl
 clear_value w8
 intro w9
 have h : Sp w w9 _ _ _ _ _ _ _ := h.nextE (β := Ch) (n' := 4) (enc' := encC) (fun a => encC_length a)
 clear_value w9
 refine ⟨s1, h.ld 2 rfl rfl, h.app (hP.ch.fr h.m.1) encC_ok rfl (by simp; omega) (by simp; omega) fun sC w12 h => ?_⟩
 rw [List.nil_append] at h
 have hCL : ∀ b, inB sC b -> ¬ inB sL b := fun b hb hb' => (h.os b hb).2.1 (.inr hb')
 refine ⟨h.wr 2 rfl rfl, ?_⟩
 intro w13
 have h : Sp w w13 [(w2.heap.size, [.slice none 0 0, .slice none 0 0, .slice none 0 0, .int .i64 0, .int .i64 0]), (w1.heap.size, [.int .i64 q0, .int .i64 q1, .int .i64 q2]), (w.heap.size, prC sL sC s2 p.most p.budget)] _ _ _ _ _ _ := h.set (i := 1) (v := .slice sC.p sC.l sC.c) 2 rfl
 clear_value w13
 intro w14
 have h : Sp w w14 _ _ _ _ _ _ _ := h.nextE (β := De × Sl) (n' := 3) (enc' := encD) (fun a => encD_length a)
 clear_value w14
 refine ⟨s2, h.ld 2 rfl rfl, h.app (hd.fr h.m.1) encD_ok rfl (by simp; omega) (by simp; omega) fun sD w17 h => ?_⟩
 rw [List.nil_append] at h
 refine ⟨h.wr 2 rfl rfl, ?_⟩
 intro w18
 have h : Sp w w18 [(w2.heap.size, [.slice none 0 0, .slice none 0 0, .slice none 0 0, .int .i64 0, .int .i64 0]), (w1.heap.size, [.int .i64 q0, .int .i64 q1, .int .i64 q2]), (w.heap.size, prC sL sC sD p.most p.budget)] _ _ _ _ _ _ := h.set (i := 2) (v := .slice sD.p sD.l sD.c) 2 rfl
 clear_value w18
 intro w19
 have h : Sp w w19 ((w18.heap.size, ([-1, 0, 1, 1000000000, 1000000001, 1000001, 10] : List Int).map (Value.int .i64)) :: _) _ _ _ _ _ _ := h.allocL (vs := ([-1, 0, 1, 1000000000, 1000000001, 1000001, 10] : List Int).map (Value.int .i64))
 clear_value w19
 have h : Sp w w19 [(w18.heap.size, ([-1, 0, 1, 1000000000, 1000000001, 1000001, 10] : List Int).map (Value.int .i64)), (w2.heap.size, [.slice none 0 0, .slice none 0 0, .slice none 0 0, .int .i64 0, .int .i64 0]), (w1.heap.size, [.int .i64 q0, .int .i64 q1, .int .i64 q2]), (w.heap.size, prC sL sC sD p.most p.budget)] (fun b => inB sL b \/ inB sC b) (fun u => Ow 1 IE u sL p.lots /\ Ow 4 encC u sC p.ch) 3 encD sD dc :=
  h.say ((Rests.ow sL _).and (Rests.ow sC _)) (fun b hb => hb.elim (fun h => .inl (.inr h)) .inr) fun q => ⟨q.1.2, q.2⟩
 refine ⟨by decide, _, h.ld 2 rfl rfl, Mod_spec (by decide) (by decide) ?_⟩
 have r1 := Int.emod_nonneg q1 (show (7 : Int) ≠ 0 by decide)
 have r2 := Int.emod_lt_of_pos q1 (show (0 : Int) < 7 by decide)
 generalize q1 % 7 = k at r1 r2 ⊢
 have hk : k.toNat < ([-1, 0, 1, 1000000000, 1000000001, 1000001, 10] : List Int).length := by simp; omega
 obtain ⟨n, hn⟩ : ∃ n, ([-1, 0, 1, 1000000000, 1000000001, 1000001, 10] : List Int)[k.toNat]? = some n := ⟨_, List.getElem?_eq_getElem hk⟩
 refine ⟨⟨r1, r2⟩, n, ?_, by decide, _, h.ld 2 rfl rfl, by decide, _, h.ld 2 rfl rfl, Mod_spec (by decide) (by decide) ?_⟩
 ·rw [Nat.mul_one, addr0]
  exact h.ld 0 rfl (by rw [List.getElem?_map, hn]; rfl)
 have hx' : ∀ {u}, Fr F0 wP u -> ∀ x ∈ dc, VI u x.2 x.1.lots /\ x.1.lots.length < 2 ^ 40 := fun hf x hx' => ⟨(hx x hx').1.fr hf, (hx x hx').2⟩
 have hC := toC h hCL
 have hL := toL h hCL
 have hnz : ∀ {u}, VI u sL p.lots -> ∃ ad lot, sL.p = some ad /\ sL.l = p.lots.length /\ ∀ v, VI v sL p.lots -> v.cell? (ad.add ((0 : Int).toNat * 1)) = some (.int .i64 lot) := fun {u} hu => by
  obtain ⟨ad, hp, _⟩ := hu.at (fun a => ie_length _ _ a) (List.getElem?_eq_getElem g0') (by decide)
  refine ⟨ad, p.lots[0], hp, hu.len, fun v hv => ?_⟩
  obtain ⟨ad', hp', hc⟩ := hv.at (fun a => ie_length _ _ a) (List.getElem?_eq_getElem g0') (by decide)
  rw [hp] at hp'
  cases hp'
  exact hc 0 _ rfl
 obtain ⟨ad, lot, had, hadl, hlot⟩ := hnz h.q.1.vw
 refine cnd_beq.2 ⟨fun _ => ⟨h.wr 3 rfl rfl, ?_⟩, fun _ => cnd_beq.2 ⟨fun _ => ⟨h.wr 3 rfl rfl, ?_⟩, fun _ => cnd_beq.2 ⟨fun _ => ⟨sL, hL.ld 3 rfl rfl, ?_⟩, fun _ => cnd_beq.2 ⟨fun _ => ⟨sC, hC.ld 3 rfl rfl, ?_⟩, fun _ => cnd_beq.2 ⟨fun _ => ?_, fun _ => cnd_beq.2 ⟨fun _ => ?_, fun _ => cnd_beq.2 ⟨fun _ => ?_, fun _ => cnd_beq.2 ⟨fun _ => ?_, fun _ => cnd_beq.2 ⟨fun _ => ?_, fun _ => cnd_beq.2 ⟨fun _ => ⟨h.wr 3 rfl rfl, ?_⟩, fun _ => cnd_beq.2 ⟨fun _ => ?_, fun _ => ?_⟩⟩⟩⟩⟩⟩⟩⟩⟩⟩⟩
 ·intro u0
  have h : Sp w u0 [_, (w2.heap.size, [.slice none 0 0, .slice none 0 0, .slice none 0 0, .int .i64 0, .int .i64 0]), _, (w.heap.size, prC sL sC sD p.most n)] _ _ _ _ _ _ := h.set (i := 4) (v := .int .i64 n) 3 rfl
  clear_value u0
  exact Sk1 (jp := 3) (jt := 1) h rfl rfl fun u h => hK u _ _ _ ⟨p.lots, p.ch, dc.map (·.1), p.most, n⟩ h.m.1 fun v hv ha => have h := h.far ha; (mkPV h.q.1.vw h.q.2.vw h.ow.vw (hx' hv) (by omega) (by omega) (by omega))
 ·intro u0
  have h : Sp w u0 [_, (w2.heap.size, [.slice none 0 0, .slice none 0 0, .slice none 0 0, .int .i64 0, .int .i64 0]), _, (w.heap.size, prC sL sC sD n p.budget)] _ _ _ _ _ _ := h.set (i := 3) (v := .int .i64 n) 3 rfl
  clear_value u0
  exact Sk1 (jp := 3) (jt := 1) h rfl rfl fun u h => hK u _ _ _ ⟨p.lots, p.ch, dc.map (·.1), n, p.budget⟩ h.m.1 fun v hv ha => have h := h.far ha; (mkPV h.q.1.vw h.q.2.vw h.ow.vw (hx' hv) (by omega) (by omega) (by omega))
 ·intro u0
  refine hL.push (a := n) rfl rfl (ie_ok _ _) rfl (by omega) (by omega) fun r u1 h => ⟨h.wr 3 rfl rfl, ?_⟩
  intro u2
  have h : Sp w u2 [_, (w2.heap.size, [.slice none 0 0, .slice none 0 0, .slice none 0 0, .int .i64 0, .int .i64 0]), _, (w.heap.size, prC r sC sD p.most p.budget)] _ _ _ _ _ _ := h.set (i := 0) (v := .slice r.p r.l r.c) 3 rfl
  clear_value u2
  exact Sk1 (jp := 3) (jt := 1) h rfl rfl fun u h => hK u _ _ _ ⟨p.lots ++ [n], p.ch, dc.map (·.1), p.most, p.budget⟩ h.m.1 fun v hv ha => have h := h.far ha; (mkPV h.ow.vw h.q.1.vw h.q.2.vw (hx' hv) (by simp; omega) (by omega) (by omega))
 ·intro u0
  refine hC.push (a := ⟨n, 1, 0, 0⟩) rfl rfl encC_ok rfl (by omega) (by omega) fun r u1 h => ⟨h.wr 3 rfl rfl, ?_⟩
  intro u2
  have h : Sp w u2 [_, (w2.heap.size, [.slice none 0 0, .slice none 0 0, .slice none 0 0, .int .i64 0, .int .i64 0]), _, (w.heap.size, prC sL r sD p.most p.budget)] _ _ _ _ _ _ := h.set (i := 1) (v := .slice r.p r.l r.c) 3 rfl
  clear_value u2
  exact Sk1 (jp := 3) (jt := 1) h rfl rfl fun u h => hK u _ _ _ ⟨p.lots, p.ch ++ [⟨n, 1, 0, 0⟩], dc.map (·.1), p.most, p.budget⟩ h.m.1 fun v hv ha => have h := h.far ha; (mkPV h.q.1.vw h.ow.vw h.q.2.vw (hx' hv) (by omega) (by simp; omega) (by omega))
 ·intro u0
  have h : Sp w u0 _ _ _ _ _ _ _ := hC.drew
  clear_value u0
  refine ⟨fun u => Row u w.heap.size (prC sL sC sD p.most p.budget) /\ VI u sL p.lots, ⟨h.row 3 rfl, h.q.1.vw⟩, sC, fun u hu => hu.1.at rfl, sL, fun u hu => hu.1.at rfl, nz_iff.2 ⟨ad, had, ⟨by decide, by omega⟩, lot, fun u hu => hlot u hu.2, ?_⟩⟩
  intro u1
  have h' := h.fr (Fr.alloc : Fr F0 u0 u1)
  refine ⟨⟨h'.row 3 rfl, h'.q.1.vw⟩, h.push (a := ⟨lot, n, n, 0⟩) rfl rfl encC_ok rfl (by omega) (by omega) fun r u1 h => ⟨⟨h.row 3 rfl, h.q.1.vw⟩, h.wr 3 rfl rfl, ?_⟩⟩
  intro u2
  have h : Sp w u2 [_, (w2.heap.size, [.slice none 0 0, .slice none 0 0, .slice none 0 0, .int .i64 0, .int .i64 0]), _, (w.heap.size, prC sL r sD p.most p.budget)] _ _ _ _ _ _ := h.set (i := 1) (v := .slice r.p r.l r.c) 3 rfl
  clear_value u2
  exact Sk1 (jp := 3) (jt := 1) h rfl rfl fun u h => hK u _ _ _ ⟨p.lots, p.ch ++ [⟨lot, n, n, 0⟩], dc.map (·.1), p.most, p.budget⟩ h.m.1 fun v hv ha => have h := h.far ha; (mkPV h.q.1.vw h.ow.vw h.q.2.vw (hx' hv) (by omega) (by simp; omega) (by omega))
 ·intro u0
  have h : Sp w u0 _ _ _ _ _ _ _ := hC.drew
  clear_value u0
  refine ⟨fun u => Row u w.heap.size (prC sL sC sD p.most p.budget) /\ VI u sL p.lots, ⟨h.row 3 rfl, h.q.1.vw⟩, sC, fun u hu => hu.1.at rfl, sL, fun u hu => hu.1.at rfl, nz_iff.2 ⟨ad, had, ⟨by decide, by omega⟩, lot, fun u hu => hlot u hu.2, ?_⟩⟩
  intro u1
  have h' := h.fr (Fr.alloc : Fr F0 u0 u1)
  refine ⟨⟨h'.row 3 rfl, h'.q.1.vw⟩, h.push (a := ⟨lot, 0, 0, n⟩) rfl rfl encC_ok rfl (by omega) (by omega) fun r u1 h => ⟨⟨h.row 3 rfl, h.q.1.vw⟩, h.wr 3 rfl rfl, ?_⟩⟩
  intro u2
  have h : Sp w u2 [_, (w2.heap.size, [.slice none 0 0, .slice none 0 0, .slice none 0 0, .int .i64 0, .int .i64 0]), _, (w.heap.size, prC sL r sD p.most p.budget)] _ _ _ _ _ _ := h.set (i := 1) (v := .slice r.p r.l r.c) 3 rfl
  clear_value u2
  exact Sk1 (jp := 3) (jt := 1) h rfl rfl fun u h => hK u _ _ _ ⟨p.lots, p.ch ++ [⟨lot, 0, 0, n⟩], dc.map (·.1), p.most, p.budget⟩ h.m.1 fun v hv ha => have h := h.far ha; (mkPV h.q.1.vw h.ow.vw h.q.2.vw (hx' hv) (by omega) (by simp; omega) (by omega))
 ·intro u0
  have h : Sp w u0 _ _ _ _ _ _ _ := h.drew
  clear_value u0
  refine ⟨fun u => Row u w.heap.size (prC sL sC sD p.most p.budget) /\ VI u sL p.lots, ⟨h.row 3 rfl, h.q.1.vw⟩, sD, fun u hu => hu.1.at rfl, sL, fun u hu => hu.1.at rfl, nz_iff.2 ⟨ad, had, ⟨by decide, by omega⟩, lot, fun u hu => hlot u hu.2, ?_⟩⟩
  intro u1
  have h : Sp w u1 ((u0.heap.size, ([lot, n] : List Int).map (Value.int .i64)) :: _) _ _ _ _ _ _ := h.allocL (vs := ([lot, n] : List Int).map (Value.int .i64))
  clear_value u1
  refine ⟨⟨h.row 4 rfl, h.q.1.vw⟩, ?_⟩
  intro u2
  have h' := h.fr (Fr.alloc : Fr F0 u1 u2)
  refine ⟨⟨h'.row 4 rfl, h'.q.1.vw⟩, h.push (a := ((⟨1, [lot, n], 0⟩ : De), (⟨some ⟨u0.heap.size, 0, none⟩, 2, 2⟩ : Sl))) rfl rfl encD_ok rfl (by omega) (by omega) fun r u1 h => ⟨⟨h.row 4 rfl, h.q.1.vw⟩, h.wr 4 rfl rfl, ?_⟩⟩
  intro u3
  have h : Sp w u3 [(u0.heap.size, ([lot, n] : List Int).map (Value.int .i64)), _, (w2.heap.size, [.slice none 0 0, .slice none 0 0, .slice none 0 0, .int .i64 0, .int .i64 0]), _, (w.heap.size, prC sL sC r p.most p.budget)] _ _ _ _ _ _ := h.set (i := 2) (v := .slice r.p r.l r.c) 4 rfl
  clear_value u3
  refine Sk1 (jp := 4) (jt := 2) h rfl rfl fun u h => hK u _ _ _ ⟨p.lots, p.ch, (dc ++ [((⟨1, [lot, n], 0⟩ : De), (⟨some ⟨u0.heap.size, 0, none⟩, 2, 2⟩ : Sl))]).map (·.1), p.most, p.budget⟩ h.m.1 fun v hv ha => have h := h.far ha; (mkPV h.q.1.vw h.q.2.vw h.ow.vw (fun x hx1 => ?_) (by omega) (by omega) (by simp; omega))
  rcases List.mem_append.1 hx1 with hx1 | hx1
  ·exact hx' hv x hx1
  ·rw [List.mem_singleton] at hx1
   subst hx1
   exact ⟨(Ow.row (l := [lot, n]) (h.row 0 rfl)).vw, by simp⟩
 ·intro u0
  have h : Sp w u0 _ _ _ _ _ _ _ := h.drew
  clear_value u0
  have e1 := Int.emod_nonneg q2 (show (2 : Int) ≠ 0 by decide)
  have e2 := Int.emod_lt_of_pos q2 (show (0 : Int) < 2 by decide)
  have hcap := h.q.1.vw.cap
  refine ⟨fun u => Row u w.heap.size (prC sL sC sD p.most p.budget) /\ VI u sL p.lots, ⟨h.row 3 rfl, h.q.1.vw⟩, sD, fun u hu => hu.1.at rfl, sL, fun u hu => hu.1.at rfl, Mod_spec (by decide) (by decide) ⟨⟨h.row 3 rfl, h.q.1.vw⟩, ⟨by decide, by omega, by omega⟩, ?_⟩⟩
  intro u2
  have h' := h.fr (Fr.alloc : Fr F0 u0 u2)
  refine ⟨⟨h'.row 3 rfl, h'.q.1.vw⟩, h.push (a := ((⟨1, p.lots.take (q2 % 2).toNat, n⟩ : De), (⟨subP sL.p 0 sL.c 1, (q2 % 2).toNat - 0, sL.c - 0⟩ : Sl))) rfl rfl encD_ok rfl (by omega) (by omega) fun r u1 h => ⟨⟨h.row 3 rfl, h.q.1.vw⟩, h.wr 3 rfl rfl, ?_⟩⟩
  intro u3
  have h : Sp w u3 [_, (w2.heap.size, [.slice none 0 0, .slice none 0 0, .slice none 0 0, .int .i64 0, .int .i64 0]), _, (w.heap.size, prC sL sC r p.most p.budget)] _ _ _ _ _ _ := h.set (i := 2) (v := .slice r.p r.l r.c) 3 rfl
  clear_value u3
  refine Sk1 (jp := 3) (jt := 1) h rfl rfl fun u h => hK u _ _ _ ⟨p.lots, p.ch, (dc ++ [((⟨1, p.lots.take (q2 % 2).toNat, n⟩ : De), (⟨subP sL.p 0 sL.c 1, (q2 % 2).toNat - 0, sL.c - 0⟩ : Sl))]).map (·.1), p.most, p.budget⟩ h.m.1 fun v hv ha => have h := h.far ha; (mkPV h.q.1.vw h.q.2.vw h.ow.vw (fun x hx1 => ?_) (by omega) (by omega) (by simp; omega))
  rcases List.mem_append.1 hx1 with hx1 | hx1
  ·exact hx' hv x hx1
  ·rw [List.mem_singleton] at hx1
   subst hx1
   exact ⟨h.q.1.vw.take (fun a => ie_length _ _ a) (by omega), by simp; omega⟩
 ·intro u0
  have h : Sp w u0 _ _ _ _ _ _ _ := h.drew
  clear_value u0
  refine ⟨fun u => Row u w.heap.size (prC sL sC sD p.most p.budget) /\ VI u sL p.lots, ⟨h.row 3 rfl, h.q.1.vw⟩, sD, fun u hu => hu.1.at rfl, sL, fun u hu => hu.1.at rfl, nz_iff.2 ⟨ad, had, ⟨by decide, by omega⟩, lot, fun u hu => hlot u hu.2, ?_⟩⟩
  intro u1
  have h : Sp w u1 ((u0.heap.size, ([lot] : List Int).map (Value.int .i64)) :: _) _ _ _ _ _ _ := h.allocL (vs := ([lot] : List Int).map (Value.int .i64))
  clear_value u1
  refine ⟨⟨h.row 4 rfl, h.q.1.vw⟩, ?_⟩
  intro u2
  have h' := h.fr (Fr.alloc : Fr F0 u1 u2)
  refine ⟨⟨h'.row 4 rfl, h'.q.1.vw⟩, h.push (a := ((⟨1, [lot], n⟩ : De), (⟨some ⟨u0.heap.size, 0, none⟩, 1, 1⟩ : Sl))) rfl rfl encD_ok rfl (by omega) (by omega) fun r u1 h => ⟨⟨h.row 4 rfl, h.q.1.vw⟩, h.wr 4 rfl rfl, ?_⟩⟩
  intro u3
  have h : Sp w u3 [(u0.heap.size, ([lot] : List Int).map (Value.int .i64)), _, (w2.heap.size, [.slice none 0 0, .slice none 0 0, .slice none 0 0, .int .i64 0, .int .i64 0]), _, (w.heap.size, prC sL sC r p.most p.budget)] _ _ _ _ _ _ := h.set (i := 2) (v := .slice r.p r.l r.c) 4 rfl
  clear_value u3
  refine Sk1 (jp := 4) (jt := 2) h rfl rfl fun u h => hK u _ _ _ ⟨p.lots, p.ch, (dc ++ [((⟨1, [lot], n⟩ : De), (⟨some ⟨u0.heap.size, 0, none⟩, 1, 1⟩ : Sl))]).map (·.1), p.most, p.budget⟩ h.m.1 fun v hv ha => have h := h.far ha; (mkPV h.q.1.vw h.q.2.vw h.ow.vw (fun x hx1 => ?_) (by omega) (by omega) (by simp; omega))
  rcases List.mem_append.1 hx1 with hx1 | hx1
  ·exact hx' hv x hx1
  ·rw [List.mem_singleton] at hx1
   subst hx1
   exact ⟨(Ow.row (l := [lot]) (h.row 0 rfl)).vw, by simp⟩
 ·intro u0
  have h : Sp w u0 [_, (w2.heap.size, [.slice none 0 0, .slice none 0 0, .slice none 0 0, .int .i64 0, .int .i64 0]), _, (w.heap.size, prC ⟨none, 0, 0⟩ sC sD p.most p.budget)] _ _ _ _ _ _ := h.set (i := 0) (v := .slice none 0 0) 3 rfl
  clear_value u0
  exact Sk1 (jp := 3) (jt := 1) h rfl rfl fun u h => hK u _ _ _ ⟨[], p.ch, dc.map (·.1), p.most, p.budget⟩ h.m.1 fun v hv ha => have h := h.far ha; (mkPV Vw.nil h.q.2.vw h.ow.vw (hx' hv) (by simp) (by omega) (by omega))
 ·exact Spoiled_l0 g0 (by omega) (by omega) hx hL hK
 ·exact Sk1 (jp := 3) (jt := 1) h rfl rfl fun u h => hK u _ _ _ ⟨p.lots, p.ch, dc.map (·.1), p.most, p.budget⟩ h.m.1 fun v hv ha => have h := h.far ha; (mkPV h.q.1.vw h.q.2.vw h.ow.vw (hx' hv) (by omega) (by omega) (by omega))
theorem Spoiled_spec {q0 q1 q2 : Int} {K : Sl -> Sl -> Sl -> Int -> Int -> World -> Prop} (hp : RightPr p) (hP : PV w s0 s1 s2 p)
  (hK : ∀ w' s0' s1' s2' (p' : Pr), Fr F0 w w' -> PV w' s0' s1' s2' p' -> K s0' s1' s2' p'.most p'.budget w') : z0z_sh s0 s1 s2 p.most p.budget q0 q1 q2 K w :=
 Spoiled_apart hp hP Fr.refl fun w' t0 t1 t2 q hf hQ => hK w' t0 t1 t2 q hf (hQ w' hf fun _ _ => rfl)
end
end Go.Proofs.YtfpobpjandjhjaaGreatDoor
