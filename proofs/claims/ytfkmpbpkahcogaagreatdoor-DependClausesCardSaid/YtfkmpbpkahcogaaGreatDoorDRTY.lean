/- The reference: names of formulas, formulas that are right, equal formulas. Conditions: none. -/
import Derived.Test.YtfkmpbpkahcogaaGreatDoorDRTX
import Derived.Test.YtfkmpbpkahcogaaGreatDoorRZ3
import Derived.Test.YtfkmpbpkahcogaaGreatDoorProg
import Derived.KernelRfl
import Derived.Test.YtfkmpbpkahcogaaGreatDoorPwY
import Derived.Test.YtfkmpbpkahcogaaGreatDoorDT
import Derived.Test.YtfkmpbpkahcogaaGreatDoorCG0
import Derived.Test.YtfkmpbpkahcogaaGreatDoorCG1
import Derived.Test.YtfkmpbpkahcogaaGreatDoorDG0
import Derived.Test.YtfkmpbpkahcogaaGreatDoorDG1
import Derived.Test.YtfkmpbpkahcogaaGreatDoorDG2
import Derived.Test.YtfkmpbpkahcogaaGreatDoorDG3
import Derived.Test.YtfkmpbpkahcogaaGreatDoorDG4
import Derived.Test.YtfkmpbpkahcogaaGreatDoorDG5
namespace Dp
open Go Pw
theorem Fm.kidInd {P : Fm -> Prop} (h : ∀ e, (∀ k ∈ e.kids, P k) -> P e) : ∀ e, P e
 | .num _ _ => h _ fun k hk => by cases hk
 | .name _ => h _ fun k hk => by cases hk
 | .op o a b => h _ fun k hk => by
  have ha := Fm.kidInd h a
  have hb := Fm.kidInd h b
  simp only [Fm.kids, List.mem_cons, List.not_mem_nil, or_false] at hk
  rcases hk with rfl | rfl
  ·exact ha
  ·exact hb
def Fm.fit : Fm -> Bool
 | .num n d => numOk n d
 | .name s => nameOk s
 | .op _ _ _ => true
theorem sound_kids (e : Fm) : e.sound = (e.fit && e.kids.all Fm.sound) := by
 cases e <;> simp [Fm.sound, Fm.fit, Fm.kids]
theorem parts_kids (e : Fm) : e.parts = 1 + (e.kids.map Fm.parts).sum := by
 cases e <;> simp [Fm.parts, Fm.kids]
 omega
theorem depth_kids (e : Fm) : e.depth = (e.kids.map Fm.depth).foldl max 0 + 1 := by
 cases e <;> simp [Fm.depth, Fm.kids]
theorem depth_parts : ∀ e : Fm, e.depth <= e.parts
 | .num _ _ => by simp [Fm.depth, Fm.parts]
 | .name _ => by simp [Fm.depth, Fm.parts]
 | .op _ a b => by
  have := depth_parts a
  have := depth_parts b
  simp only [Fm.depth, Fm.parts]
  omega
theorem kids_two (e : Fm) : e.kids.length <= 2 := by cases e <;> simp [Fm.kids]
theorem take_snoc {α β : Type} (f : α -> β) (l : List α) {i : Nat} (h : i < l.length) : (l.take (i + 1)).map f = (l.take i).map f ++ [f l[i]] := by
 rw [List.take_add_one, List.getElem?_eq_getElem h, List.map_append]
 rfl
theorem sum_take (e : Fm) (i : Nat) : ((e.kids.take i).map Fm.parts).sum + 1 <= e.parts := by
 rw [parts_kids]
 have h : ((e.kids.take i).map Fm.parts).sum <= (e.kids.map Fm.parts).sum := by
  conv => rhs; rw [← List.take_append_drop i e.kids]
  rw [List.map_append, List.sum_append]
  omega
 omega
end Dp
namespace Go.Proofs.YtfkmpbpkahcogaaGreatDoor
open Go Pw Dp
section
variable {w0 w w' : World} {s s' : Sl} {l : List B} {x : T43} {t : Td}
theorem rletter_spec {c : UInt8} {K : Bool -> World -> Prop} (hK : K (letterB c) w) : z0s_sh (c.toNat : Int) K w := by
 refine ⟨?_⟩
 unfold z0s_sd
 have e2 : letterB c = ((decide (97 <= c.toNat) && decide (c.toNat <= 122)) || (decide (65 <= c.toNat) && decide (c.toNat <= 90))) := rfl
 refine cnd_prop.2 ⟨fun h1 => cnd_prop.2 ⟨fun h2 => ?_, fun h2 => cnd_prop.2 ⟨fun h3 => ?_, fun h3 => ?_⟩⟩, fun h1 => cnd_prop.2 ⟨fun h3 => ?_, fun h3 => ?_⟩⟩
 ·have : letterB c = true := by rw [e2]; simp; omega
  rwa [this] at hK
 ·have : letterB c = decide ((c.toNat : Int) <= 90) := by rw [e2, Bool.eq_iff_iff]; simp; omega
  rwa [this] at hK
 ·have : letterB c = false := by rw [e2]; simp; omega
  rwa [this] at hK
 ·have : letterB c = decide ((c.toNat : Int) <= 90) := by rw [e2, Bool.eq_iff_iff]; simp; omega
  rwa [this] at hK
 ·have : letterB c = false := by rw [e2]; simp; omega
  rwa [this] at hK
theorem rdigit_spec {c : UInt8} {K : Bool -> World -> Prop} (hK : K (digitB c) w) : z13_sh (c.toNat : Int) K w := by
 refine ⟨?_⟩
 unfold z13_sd
 refine cnd_prop.2 ⟨fun h1 => ?_, fun h1 => ?_⟩
 ·have : digitB c = decide ((c.toNat : Int) <= 57) := by unfold digitB; rw [Bool.eq_iff_iff]; simp; omega
  rwa [this] at hK
 ·have : digitB c = false := by unfold digitB; simp; omega
  rwa [this] at hK
theorem rfollows_spec {c : UInt8} {K : Bool -> World -> Prop} (hK : K (inNameB c) w) : z0g_sh (c.toNat : Int) K w := by
 refine ⟨?_⟩
 unfold z0g_sd
 refine rletter_spec (rdigit_spec (cnd_iff.2 ⟨fun h => ?_, fun h => cnd_iff.2 ⟨fun h' => ?_, fun h' => ?_⟩⟩))
 ·have : inNameB c = true := by unfold inNameB; rw [h]; rfl
  rwa [this] at hK
 ·have : inNameB c = true := by unfold inNameB; rw [h, h']; rfl
  rwa [this] at hK
 ·have : inNameB c = ((c.toNat : Int) == 95) := by unfold inNameB; rw [h, h', Bool.eq_iff_iff]; simp; omega
  rwa [this] at hK
theorem rIsName_spec {l : B} {K : Bool -> World -> Prop} (hl : l.length < 2 ^ 62) (hK : K (isNameB l) w) : z0r_sh (ofL l) K w := by
 refine ⟨?_⟩
 unfold z0r_sd
 rw [ofL_sz]
 refine cnd_prop.2 ⟨fun h => ?_, fun h1 => cnd_prop.2 ⟨fun h => ?_, fun h30 => ?_⟩⟩
 ·have : l = [] := List.eq_nil_of_length_eq_zero (by omega)
  subst this
  exact hK
 ·have : isNameB l = false := by
   cases l with
   | nil => rfl
   | cons c r =>
    show (decide ((c :: r).length <= 30) && _) = false
    rw [decide_eq_false (by omega), Bool.false_and]
  rw [this] at hK
  exact hK
 obtain ⟨c0, r0, rfl⟩ : ∃ c r, l = c :: r := by
  cases l with
  | nil => simp at h1
  | cons c r => exact ⟨c, r, rfl⟩
 have en : isNameB (c0 :: r0) = (letterB c0 && (c0 :: r0).all inNameB) := by
  show (decide ((c0 :: r0).length <= 30) && _) = _
  rw [decide_eq_true (by omega), Bool.true_and]
 generalize hl0 : c0 :: r0 = l at *
 refine ⟨⟨fun i u => ∃ i' : Nat, i = i' /\ i' <= l.length /\ u = w /\ (l.take i').all inNameB = true /\ (0 < i' -> letterB c0 = true), fun i _ => l.length - i.toNat, ⟨0, rfl, by omega, rfl, by simp, fun h => by omega⟩, ?_⟩⟩
 rintro i u ⟨i, rfl, hi, rfl, hb, hc⟩
 unfold z0r_b0
 rw [ofL_sz]
 refine cnd_prop.2 ⟨fun hlt => ⟨⟨by omega, by omega⟩, ?_⟩, fun hge => ?_⟩
 ·have hil : i < l.length := by omega
  have e : ((ofL l).data.toList.getD (i : Int).toNat 0) = l[i] := by
   show (bl (ofL l)).getD i 0 = _
   rw [bl_ofL, List.getD_eq_getElem?_getD, List.getElem?_eq_getElem hil]
   rfl
  rw [e]
  have no : inNameB l[i] = false -> isNameB l = false := fun h => by
   rw [en, List.all_eq_false.2 ⟨_, List.getElem_mem hil, by simp [h]⟩, Bool.and_false]
  have nx : inNameB l[i] = true -> (0 < i + 1 -> letterB c0 = true) -> inR .i64 ((i : Int) + 1) /\ (((True /\ True)) /\ ∃ i' : Nat, (i : Int) + 1 = i' /\ i' <= l.length /\ u = u /\ (l.take i').all inNameB = true /\ (0 < i' -> letterB c0 = true)) := fun h hc => by
   refine ⟨inR64 (by omega) (by omega), ⟨trivial, trivial⟩, i + 1, by omega, by omega, rfl, ?_, hc⟩
   rw [List.take_add_one, List.getElem?_eq_getElem hil, List.all_append, hb]
   simp [h]
  refine rfollows_spec ⟨⟨by omega, by omega⟩, rletter_spec (cnd_iff.2 ⟨fun h => ?_, fun h => cnd_beq.2 ⟨fun h0 => cnd_iff.2 ⟨fun h' => ?_, fun h' => ?_⟩, fun h0 => ?_⟩⟩)⟩
  ·have h : inNameB l[i] = false := by simpa using h
   rw [no h] at hK
   exact hK
  ·have h' : letterB l[i] = false := by simpa using h'
   have h0 : i = 0 := by omega
   subst h0
   have : letterB c0 = false := by
    subst hl0
    exact h'
   rw [en, this, Bool.false_and] at hK
   exact hK
  ·have h : inNameB l[i] = true := by simpa using h
   have h' : letterB l[i] = true := by simpa using h'
   have h0 : i = 0 := by omega
   subst h0
   obtain ⟨n1, _, n2⟩ := nx h fun _ => by subst hl0; exact h'
   exact ⟨n1, ⟨⟨rfl, trivial⟩, n2⟩, by dsimp only; omega⟩
  ·have h : inNameB l[i] = true := by simpa using h
   obtain ⟨n1, _, n2⟩ := nx h fun _ => hc (by omega)
   exact ⟨n1, ⟨⟨rfl, trivial⟩, n2⟩, by dsimp only; omega⟩
 ·have : i = l.length := by omega
  subst this
  rw [List.take_length] at hb
  have h0 : 0 < l.length := by subst hl0; simp
  rw [en, hb, hc h0] at hK
  exact hK
theorem fits_spec {e : Fm} {c : XC} {K : Bool -> World -> Prop} (hx : XP w e c) (hK : ∀ w', Fr F0 w w' -> K e.fit w') : z1e_sh c.op c.n c.d c.nm c.a K w := by
 refine ⟨?_⟩
 unfold z1e_sd
 intro w1
 have m : Mem w w1 [(w.heap.size, _)] := Mem.nil.allocL (cs := encX c)
 clear_value w1
 have hbox := m.row 0 rfl
 cases e with
 | num n d =>
  obtain ⟨rfl, hn64, hd64⟩ := hx
  refine ⟨_, hbox.at rfl, ?_⟩
  have ee : decide (ofL wNum = str [110, 117, 109]) = true := by decide
  rw [ee]
  refine ⟨n, hbox.at rfl, d, hbox.at rfl, rRight_spec hn64 hd64 fun w3 hf3 => ?_⟩
  have hbox3 := hf3.row hbox fun h => h
  have fin : ∀ b, numOk n d = b -> K b w3 := fun b hb => by subst hb; exact hK w3 (m.1.t hf3)
  refine cnd_prop.2 ⟨fun h1 => ⟨n, hbox3.at rfl, cnd_prop.2 ⟨fun h2 => ?_, fun h2 => fin _ (Bool.eq_false_iff.2 fun h => h2 (num_sound.1 h).2.1)⟩⟩, fun h1 => fin _ (Bool.eq_false_iff.2 fun h => h1 (num_sound.1 h).1)⟩
  have hd0 : 0 < d := h1.1
  refine ⟨d, hbox3.at rfl, by omega, cnd_beq.2 ⟨fun h3 => ?_, fun h3 => fin _ (Bool.eq_false_iff.2 fun h => h3 (num_sound.1 h).2.2.1)⟩⟩
  have hdl := den_le hd0 h3
  refine ⟨n, hbox3.at rfl, d, hbox3.at rfl, inR64 (by omega) (by omega), cnd_prop.2 ⟨fun h4 => ?_, fun h4 => fin _ (Bool.eq_false_iff.2 fun h => h4 (num_sound.1 h).2.2.2)⟩⟩
  refine ⟨_, hbox3.at rfl, ?_⟩
  have ee : decide (ofL [] = str []) = true := by decide
  rw [ee]
  exact ⟨⟨none, 0, 0⟩, hbox3.at rfl, fin _ (num_sound.2 ⟨h1, h2, h3, h4⟩)⟩
 | name s =>
  obtain ⟨rfl, hs20⟩ := hx
  have fin : ∀ b, nameOk s = b -> K b w1 := fun b hb => by subst hb; exact hK w1 m.1
  have en : nameOk s = (isNameB s && (!decide (s = wMin) && !decide (s = wMax))) := rfl
  refine ⟨_, hbox.at rfl, ?_⟩
  have ee : decide (ofL wName = str [110, 117, 109]) = false := by decide
  have ee' : decide (ofL wName = str [110, 97, 109, 101]) = true := by decide
  rw [ee, ee']
  refine ⟨_, hbox.at rfl, rIsName_spec (by omega) (cnd_iff.2 ⟨fun h1 => ⟨_, hbox.at rfl, ?_⟩, fun h1 => fin _ (by rw [en, h1]; rfl)⟩)⟩
  rw [show decide (ofL s = str [109, 105, 110]) = decide (s = wMin) from ofL_dec s wMin]
  refine cnd_iff.2 ⟨fun h2 => ⟨_, hbox.at rfl, ?_⟩, fun h2 => fin _ (by rw [en, h2]; simp)⟩
  rw [show decide (ofL s = str [109, 97, 120]) = decide (s = wMax) from ofL_dec s wMax]
  refine cnd_iff.2 ⟨fun h3 => ⟨0, hbox.at rfl, 0, hbox.at rfl, ?_⟩, fun h3 => fin _ (by rw [en, h3]; simp)⟩
  show cnd true _ _
  rw [cnd_true]
  exact ⟨⟨none, 0, 0⟩, hbox.at rfl, fin _ (by rw [en, h1, h2, h3]; rfl)⟩
 | op o a b =>
  obtain ⟨ca, cb, ⟨h1, h2, h3, h4⟩, hv, hxa, hxb⟩ := hx
  obtain ⟨op, n, d, nm, sa⟩ := c
  simp only at h1 h2 h3 h4 hv
  subst h1 h2 h3 h4
  have hl2 : sa.l = 2 := hv.len
  refine ⟨_, hbox.at rfl, ?_⟩
  rw [opnum o, opname o, op43 o, op45 o, op42 o, op47 o, opmin o, opmax o]
  refine op_chain ⟨?_⟩ o
  unfold z1e_k0d
  simp only [add_mk, Nat.zero_add]
  refine ⟨0, hbox.at rfl, 0, hbox.at rfl, ?_⟩
  show cnd true _ _
  rw [cnd_true]
  refine ⟨_, hbox.at rfl, ?_⟩
  have ee : decide (ofL [] = str []) = true := by decide
  rw [ee, cnd_true]
  refine ⟨sa, hbox.at rfl, ?_⟩
  rw [hl2]
  exact hK w1 m.1
theorem sound_spec (e : Fm) : ∀ {c : XC} {w : World} {K : Bool -> World -> Prop}, XP w e c -> (∀ w', Fr F0 w w' -> K e.sound w') -> z14_sh c.op c.n c.d c.nm c.a K w := by
 refine Fm.kidInd (P := fun e => ∀ {c : XC} {w : World} {K : Bool -> World -> Prop}, XP w e c -> (∀ w', Fr F0 w w' -> K e.sound w') -> z14_sh c.op c.n c.d c.nm c.a K w) (fun e ih c w K hx hK => ?_) e
 obtain ⟨cs, hcv, hcl, hck⟩ := hx.kids
 have hea : c.a.l = e.kids.length := by rw [hcv.len, hcl]
 have h2 := kids_two e
 refine z14_mk _ _ _ _ _ _ _ ?_
 unfold z14_sd
 intro w1
 have m : Mem w w1 [(w.heap.size, _)] := Mem.nil.allocL (cs := encX c)
 clear_value w1
 have hbox := m.row 0 rfl
 refine ⟨_, hbox.at rfl, _, hbox.at rfl, _, hbox.at rfl, _, hbox.at rfl, c.a, hbox.at rfl, fits_spec (hx.fr m.1) fun w2 f2 => ?_⟩
 refine ⟨⟨fun ok i u => ∃ i' : Nat, i = i' /\ i' <= e.kids.length /\ Fr F0 w1 u /\ ok = (e.fit && (e.kids.take i').all Fm.sound), fun _ i _ => e.kids.length - i.toNat, ⟨0, rfl, by omega, f2, by simp⟩, ?_⟩⟩
 rintro ok i u ⟨i, rfl, hi, hf, rfl⟩
 unfold z14_b0
 have hb := hf.row hbox fun h => h
 refine ⟨c.a, hb.at (i := 4) rfl, ?_⟩
 rw [hea]
 refine cnd_prop.2 ⟨fun hlt => cnd_iff.2 ⟨fun ho => ⟨c.a, hb.at (i := 4) rfl, ?_⟩, fun ho => ?_⟩, fun hge => ?_⟩
 ·have hil : i < e.kids.length := by omega
  refine ldX (hcv.fr (m.1.t hf)) i rfl (by omega) ?_
  refine ih _ (List.getElem_mem hil) ((hck i (by omega) hil).fr (m.1.t hf)) fun w3 f3 => ⟨inR64 (by omega) (by omega), ⟨⟨rfl, trivial⟩, i + 1, by omega, by omega, hf.t f3, ?_⟩, by dsimp only; omega⟩
  rw [List.take_add_one, List.getElem?_eq_getElem hil, List.all_append, ← Bool.and_assoc, ho]
  simp
 ·have : e.sound = false := by
   rw [sound_kids]
   rw [Bool.and_eq_false_iff] at ho ⊢
   refine ho.imp id fun h => ?_
   rw [List.all_eq_false] at h ⊢
   obtain ⟨k, hk, h⟩ := h
   exact ⟨k, List.mem_of_mem_take hk, h⟩
  rw [ho, ← this]
  exact hK u (m.1.t hf)
 ·have : i = e.kids.length := by omega
  subst this
  rw [List.take_length, ← sound_kids]
  exact hK u (m.1.t hf)
theorem Parts_spec (e : Fm) : ∀ {c : XC} {w : World} {K : Int -> World -> Prop}, XP w e c -> e.parts <= 2 ^ 38 -> (∀ w', Fr F0 w w' -> K (e.parts : Int) w') -> z12_sh c.op c.n c.d c.nm c.a K w := by
 refine Fm.kidInd (P := fun e => ∀ {c : XC} {w : World} {K : Int -> World -> Prop}, XP w e c -> e.parts <= 2 ^ 38 -> (∀ w', Fr F0 w w' -> K (e.parts : Int) w') -> z12_sh c.op c.n c.d c.nm c.a K w) (fun e ih c w K hx hp hK => ?_) e
 obtain ⟨cs, hcv, hcl, hck⟩ := hx.kids
 have hea : c.a.l = e.kids.length := by rw [hcv.len, hcl]
 have h2 := kids_two e
 refine z12_mk _ _ _ _ _ _ _ ?_
 unfold z12_sd
 intro w1
 have m : Mem w w1 [(w.heap.size, _)] := Mem.nil.allocL (cs := encX c)
 clear_value w1
 have hbox := m.row 0 rfl
 refine ⟨⟨fun n i u => ∃ i' : Nat, i = i' /\ i' <= e.kids.length /\ Fr F0 w1 u /\ n = ((1 + ((e.kids.take i').map Fm.parts).sum : Nat) : Int), fun _ i _ => e.kids.length - i.toNat, ⟨0, rfl, by omega, Fr.refl, by simp⟩, ?_⟩⟩
 rintro n i u ⟨i, rfl, hi, hf, rfl⟩
 unfold z12_b0
 have hb := hf.row hbox fun h => h
 refine ⟨c.a, hb.at (i := 4) rfl, ?_⟩
 rw [hea]
 refine cnd_prop.2 ⟨fun hlt => ⟨c.a, hb.at (i := 4) rfl, ?_⟩, fun hge => ?_⟩
 ·have hil : i < e.kids.length := by omega
  have hkp := kid_parts e _ (List.getElem_mem hil)
  have hs := sum_take e (i + 1)
  rw [take_snoc Fm.parts _ hil, List.sum_append] at hs
  simp only [List.sum_cons, List.sum_nil] at hs
  refine ldX (hcv.fr (m.1.t hf)) i rfl (by omega) ?_
  refine ih _ (List.getElem_mem hil) ((hck i (by omega) hil).fr (m.1.t hf)) (by omega) fun w3 f3 => ⟨inR64 (by omega) (by omega), inR64 (by omega) (by omega), ⟨⟨rfl, trivial⟩, i + 1, by omega, by omega, hf.t f3, ?_⟩, by dsimp only; omega⟩
  rw [take_snoc Fm.parts _ hil, List.sum_append]
  simp only [List.sum_cons, List.sum_nil]
  omega
 ·have : i = e.kids.length := by omega
  subst this
  rw [List.take_length, ← parts_kids]
  exact hK u (m.1.t hf)
theorem fold_snoc {l : List Nat} {n : Nat} : (l ++ [n]).foldl max 0 = max (l.foldl max 0) n := by rw [List.foldl_append]; rfl
theorem Depth_spec (e : Fm) : ∀ {c : XC} {w : World} {K : Int -> World -> Prop}, XP w e c -> e.parts <= 2 ^ 38 -> (∀ w', Fr F0 w w' -> K (e.depth : Int) w') -> z11_sh c.op c.n c.d c.nm c.a K w := by
 refine Fm.kidInd (P := fun e => ∀ {c : XC} {w : World} {K : Int -> World -> Prop}, XP w e c -> e.parts <= 2 ^ 38 -> (∀ w', Fr F0 w w' -> K (e.depth : Int) w') -> z11_sh c.op c.n c.d c.nm c.a K w) (fun e ih c w K hx hp hK => ?_) e
 obtain ⟨cs, hcv, hcl, hck⟩ := hx.kids
 have hea : c.a.l = e.kids.length := by rw [hcv.len, hcl]
 have h2 := kids_two e
 refine z11_mk _ _ _ _ _ _ _ ?_
 unfold z11_sd
 intro w1
 have m : Mem w w1 [(w.heap.size, _)] := Mem.nil.allocL (cs := encX c)
 clear_value w1
 have hbox := m.row 0 rfl
 refine ⟨⟨fun n i u => ∃ i' : Nat, i = i' /\ i' <= e.kids.length /\ Fr F0 w1 u /\ n = ((((e.kids.take i').map Fm.depth).foldl max 0 : Nat) : Int), fun _ i _ => e.kids.length - i.toNat, ⟨0, rfl, by omega, Fr.refl, by simp⟩, ?_⟩⟩
 rintro n i u ⟨i, rfl, hi, hf, rfl⟩
 unfold z11_b0
 have hb := hf.row hbox fun h => h
 refine ⟨c.a, hb.at (i := 4) rfl, ?_⟩
 rw [hea]
 refine cnd_prop.2 ⟨fun hlt => ⟨c.a, hb.at (i := 4) rfl, ?_⟩, fun hge => ?_⟩
 ·have hil : i < e.kids.length := by omega
  have hkp := kid_parts e _ (List.getElem_mem hil)
  refine ldX (hcv.fr (m.1.t hf)) i rfl (by omega) ?_
  refine ih _ (List.getElem_mem hil) ((hck i (by omega) hil).fr (m.1.t hf)) (by omega) fun w3 f3 => ⟨inR64 (by omega) (by omega), ⟨⟨rfl, trivial⟩, i + 1, by omega, by omega, hf.t f3, ?_⟩, by dsimp only; omega⟩
  rw [take_snoc Fm.depth _ hil, fold_snoc]
  omega
 ·have : i = e.kids.length := by omega
  subst this
  have hd := depth_parts e
  have he := depth_kids e
  rw [List.take_length]
  have e1 : (((e.kids.map Fm.depth).foldl max 0 : Nat) : Int) + 1 = (e.depth : Int) := by omega
  rw [e1]
  exact ⟨inR64 (by omega) (by omega), hK u (m.1.t hf)⟩
theorem RightF_spec {e : Fm} {c : XC} {K : Bool -> World -> Prop} (hx : XP w e c) (hp : e.parts <= 2 ^ 38) (hK : ∀ w', Fr F0 w w' -> K e.right w') : z01_sh c.op c.n c.d c.nm c.a K w := by
 refine ⟨?_⟩
 unfold z01_sd
 intro w1
 have m : Mem w w1 [(w.heap.size, _)] := Mem.nil.allocL (cs := encX c)
 clear_value w1
 have hbox := m.row 0 rfl
 have er : e.right = (e.sound && (decide (e.parts <= 60) && decide (e.depth <= 12))) := rfl
 refine ⟨_, hbox.at rfl, _, hbox.at rfl, _, hbox.at rfl, _, hbox.at rfl, c.a, hbox.at rfl, sound_spec e (hx.fr m.1) fun w2 f2 => ?_⟩
 have F2 := m.1.t f2
 have hb2 := f2.row hbox fun h => h
 refine cnd_iff.2 ⟨fun h1 => ?_, fun h1 => ?_⟩
 ·refine ⟨_, hb2.at rfl, _, hb2.at rfl, _, hb2.at rfl, _, hb2.at rfl, c.a, hb2.at rfl, Parts_spec e (hx.fr F2) hp fun w3 f3 => ?_⟩
  have F3 := F2.t f3
  have hb3 := f3.row hb2 fun h => h
  refine cnd_prop.2 ⟨fun h2 => ?_, fun h2 => ?_⟩
  ·refine ⟨_, hb3.at rfl, _, hb3.at rfl, _, hb3.at rfl, _, hb3.at rfl, c.a, hb3.at rfl, Depth_spec e (hx.fr F3) hp fun w4 f4 => ?_⟩
   have : decide ((e.depth : Int) <= 12) = e.right := by
    rw [er, h1, decide_eq_true (show e.parts <= 60 by omega), Bool.true_and, Bool.true_and, decide_eq_decide]
    omega
   rw [this]
   exact hK w4 (F3.t f4)
  ·have : e.right = false := by rw [er, decide_eq_false (show ¬ e.parts <= 60 by omega)]; simp
   rw [← this]
   exact hK w3 F3
 ·have : e.right = false := by rw [er, h1]; rfl
  rw [← this]
  exact hK w2 F2
theorem names_spec (e : Fm) : ∀ {c : XC} {w : World} {s : Sl} {m : List B} {K : Sl -> World -> Prop}, XP w e c -> Vw 1 encB w s m -> m.length + e.parts <= 2 ^ 40 -> (∀ w' r, Fr F0 w w' -> Vw 1 encB w' r (nmA m e) -> (∀ b, inB r b -> inB s b \/ w.heap.size <= b) -> K r w') -> z16_sh c.op c.n c.d c.nm c.a s K w := by
 refine Fm.kidInd (P := fun e => ∀ {c : XC} {w : World} {s : Sl} {m : List B} {K : Sl -> World -> Prop}, XP w e c -> Vw 1 encB w s m -> m.length + e.parts <= 2 ^ 40 -> (∀ w' r, Fr F0 w w' -> Vw 1 encB w' r (nmA m e) -> (∀ b, inB r b -> inB s b \/ w.heap.size <= b) -> K r w') -> z16_sh c.op c.n c.d c.nm c.a s K w) (fun e ih c w s l K hx hv hp hK => ?_) e
 obtain ⟨cs, hcv, hcl, hck⟩ := hx.kids
 have hea : c.a.l = e.kids.length := by rw [hcv.len, hcl]
 have h2 := kids_two e
 refine z16_mk _ _ _ _ _ _ _ _ _ _ ?_
 unfold z16_sd
 intro w1
 have m : Mem w w1 [(w.heap.size, _)] := Mem.nil.allocL (cs := encX c)
 clear_value w1
 have hbox := m.row 0 rfl
 have hv := hv.fr m.1
 -- the arguments, one behind the other
 have kids : ∀ {u : World}, Fr F0 w1 u -> nm1 l e = l -> z16_k0 s ⟨w.heap.size, 0, none⟩ K u := fun {u} hf hn => by
  refine ⟨⟨⟨fun r i u => ∃ i' : Nat, i = i' /\ i' <= e.kids.length /\ Fr F0 w1 u /\ Vw 1 encB u r ((e.kids.take i').foldl nmA l) /\ ∀ b, inB r b -> inB s b \/ w.heap.size <= b, fun _ i _ => e.kids.length - i.toNat, ⟨0, rfl, by omega, hf, by simpa using hv.fr hf, fun _ h => .inl h⟩, ?_⟩⟩⟩
  rintro r i u ⟨i, rfl, hi, hf, hr, hin⟩
  unfold z16_b1
  have hb := hf.row hbox fun h => h
  refine ⟨c.a, hb.at (i := 4) rfl, ?_⟩
  rw [hea]
  refine cnd_prop.2 ⟨fun hlt => ⟨c.a, hb.at (i := 4) rfl, ?_⟩, fun hge => ?_⟩
  ·have hil : i < e.kids.length := by omega
   have hacc := kid_acc e l i hil
   refine ldX (hcv.fr (m.1.t hf)) i rfl (by omega) ?_
   refine ih _ (List.getElem_mem hil) ((hck i (by omega) hil).fr (m.1.t hf)) hr (by omega) fun w3 r3 f3 v3 n3 => ⟨inR64 (by omega) (by omega), ⟨⟨rfl, trivial⟩, i + 1, by omega, by omega, hf.t f3, ?_, fun b hb => ?_⟩, by dsimp only; omega⟩
   ·rw [List.take_add_one, List.getElem?_eq_getElem hil, List.foldl_append]
    exact v3
   ·rcases n3 b hb with h | h
    ·exact hin b h
    ·exact .inr (Nat.le_trans (Nat.le_trans m.1.1 hf.1) h)
  ·have : i = e.kids.length := by omega
   subst this
   rw [List.take_length] at hr
   refine hK u r (m.1.t hf) ?_ hin
   have e1 : nm1 (e.kids.foldl nmA l) e = e.kids.foldl nmA l := by
    cases e with
    | num _ _ => rfl
    | name _ => exact hn
    | op _ _ _ => rfl
   rw [nmA_kids, e1]
   exact hr
 refine ⟨_, hbox.at rfl, ?_⟩
 rcases name_or e with ⟨nn, rfl⟩ | ⟨hn1, hn2⟩
 ·obtain ⟨hxe, h20⟩ := hx
  subst hxe
  have ee : decide (ofL wName = str [110, 97, 109, 101]) = true := by decide
  rw [ee, cnd_true]
  have hpp : (Fm.name nn).parts = 1 := rfl
  refine ⟨_, hbox.at rfl, rhas3_spec hv (by omega) (cnd_iff.2 ⟨fun h => ?_, fun h => ?_⟩)⟩
  ·have hnin : nn ∉ l := by simpa using h
   have en : nmA l (.name nn) = l ++ [nn] := addB_new hnin
   rw [en] at hK
   intro w6
   have f6 : Fr F0 w1 w6 := Fr.drew
   clear_value w6
   have hb6 := f6.row hbox fun h => h
   refine ⟨fun u => Fr F0 w6 u, Fr.refl, ofL nn, fun u hu => (hu.row hb6 fun h => h).at rfl, ?_, ?_⟩
   ·intro w9
    have r9 : Row w9 w6.heap.size [] := Row.new (cs := [])
    have f9 : Fr F0 w6 w9 := Fr.alloc
    clear_value w9
    refine ⟨f9, fun u u' h hs => hs.t h.f0, ⟨fun u => ExtL.alloc, trivial⟩, fun w10 e10 => ?_⟩
    have f10 := e10.f0
    refine copy0 encB_length (f10.row r9 fun h => h) (hv.fr (f6.t (f9.t f10))) encB_ok rfl (by omega) (by omega) fun s11 w12 o11 f12 i11 => ⟨f12.ext, fun w13 e13 w14 e14 _ g14 => ?_⟩
    have rx0 : Vw 1 encB (w14.alloc (Obj.cells #[Value.string (ofL nn)] 9)) ⟨some ⟨w14.heap.size, 0, none⟩, 1, 1⟩ [nn] := Vw.new rfl rfl
    have rx := rx0.fr g14.f0
    have F13 : Fr F0 w6 w13 := f9.t (f10.t (f12.t e13.f0))
    have lb : ∀ b, inB s11 b -> w6.heap.size <= b := fun b hb => by
     have := f9.1
     have := f10.1
     rcases i11 b hb with h | h
     ·omega
     ·omega
    refine (o11.fr e13.f0).app rx encB_ok rfl (by simp; omega) (by simp; omega) fun s15 w16 o15 f16 i15 => ?_
    have F16 : Fr F0 w6 w16 := F13.nb f16 lb
    refine ⟨F16, hK w16 s15 (m.1.t (f6.t F16)) o15.vw fun b hb => .inr ?_⟩
    have := m.1.1; have := f6.1; have := F13.1
    rcases i15 b hb with h | h
    ·have := lb b h; omega
    ·omega
   ·intro w17
    have r17 : Row w17 w6.heap.size ([nn].flatMap encB) := Row.new
    have f17 : Fr F0 w6 w17 := Fr.alloc
    clear_value w17
    refine ⟨f17, ?_⟩
    intro w18
    have r18 : Row w18 w17.heap.size [] := Row.new (cs := [])
    have f18 : Fr F0 w17 w18 := Fr.alloc
    clear_value w18
    have F18 := f17.t f18
    refine ⟨F18, copy0 encB_length r18 (hv.fr (f6.t F18)) encB_ok rfl (by omega) (by omega) fun s19 w20 o19 f20 i19 => ⟨F18.t f20, ?_⟩⟩
    have rx : Vw 1 encB w20 ⟨some ⟨w6.heap.size, 0, none⟩, 1, 1⟩ [nn] := (Row.ow encB_length (l := [nn]) ((f18.t f20).row r17 fun h => h)).vw
    have lb : ∀ b, inB s19 b -> w6.heap.size <= b := fun b hb => by
     have := f17.1
     have := f18.1
     rcases i19 b hb with h | h
     ·omega
     ·omega
    refine o19.app rx encB_ok rfl (by simp; omega) (by simp; omega) fun s21 w22 o21 f22 i21 => ?_
    have F22 : Fr F0 w6 w22 := (F18.t f20).nb f22 lb
    refine ⟨F22, hK w22 s21 (m.1.t (f6.t F22)) o21.vw fun b hb => .inr ?_⟩
    have := m.1.1; have := f6.1; have := (F18.t f20).1
    rcases i21 b hb with h | h
    ·have := lb b h; omega
    ·omega
  ·have hin : nn ∈ l := by simpa using h
   exact kids Fr.refl (addB_in hin)
 ·rw [hn2 hx, cnd_false]
  exact kids Fr.refl (hn1 l)
theorem rNames_spec {e : Fm} {c : XC} {K : Sl -> World -> Prop} (hx : XP w e c) (hp : e.parts <= 2 ^ 38) (hK : ∀ w' r l, Fr F0 w w' -> Vw 1 encB w' r l -> (∀ b, inB r b -> w.heap.size <= b) -> (∀ x, x ∈ l ↔ x ∈ e.namesR) -> l.length <= e.parts -> K r w') : z15_sh c.op c.n c.d c.nm c.a K w := by
 refine ⟨?_⟩
 unfold z15_sd
 intro w1
 have m : Mem w w1 [(w.heap.size, _)] := Mem.nil.allocL (cs := encX c)
 clear_value w1
 have hbox := m.row 0 rfl
 refine ⟨_, hbox.at rfl, _, hbox.at rfl, _, hbox.at rfl, _, hbox.at rfl, c.a, hbox.at rfl, RightF_spec (hx.fr m.1) hp fun w2 f2 => ?_⟩
 have F2 := m.1.t f2
 have hb2 := f2.row hbox fun h => h
 refine cnd_iff.2 ⟨fun h => ?_, fun h => ?_⟩
 ·have hr : e.right = false := by simpa using h
  refine hK w2 _ [] F2 Vw.nil (fun b ⟨a, ha, _⟩ => by cases ha) (fun x => ?_) (by simp)
  unfold Fm.namesR
  rw [hr]
  simp
 ·have hr : e.right = true := by simpa using h
  refine ⟨_, hb2.at rfl, _, hb2.at rfl, _, hb2.at rfl, _, hb2.at rfl, c.a, hb2.at rfl, names_spec e (hx.fr F2) Vw.nil (by simp; omega) fun w3 r f3 v3 n3 => ?_⟩
  refine hK w3 r _ (F2.t f3) v3 (fun b hb => (n3 b hb).elim (fun ⟨a, ha, _⟩ => by cases ha) fun h => Nat.le_trans F2.1 h) (fun x => ?_) (by simpa using nmA_len e [])
  rw [mem_nmA]
  unfold Fm.namesR
  rw [hr]
  simp
end
end Go.Proofs.YtfkmpbpkahcogaaGreatDoor
namespace Pw
open Go
theorem Vw.lt {α : Type} {n : Nat} {enc : α -> List Value} {w : World} {s : Sl} {l : List α} (h : Vw n enc w s l) (hn : ∀ a, (enc a).length = n) (hn0 : 0 < n) (hl : l ≠ []) : ∀ b, inB s b -> b < w.heap.size := by
 intro b ⟨a, ha, hb⟩
 cases l with
 | nil => exact absurd rfl hl
 | cons x l =>
  obtain ⟨ad, hp, hc⟩ := h.at hn (i := 0) (a := x) rfl hn0
  rw [ha] at hp
  cases hp
  subst hb
  have hv := hc 0 _ (List.getElem?_eq_getElem (by rw [hn]; exact hn0))
  unfold World.cell? at hv
  rw [add_block, add_block] at hv
  rcases Nat.lt_or_ge a.block w.heap.size with h' | h'
  ·exact h'
  ·rw [Array.getElem?_eq_none h'] at hv
   cases hv
end Pw
namespace Go.Proofs.YtfkmpbpkahcogaaGreatDoor
open Go Pw Dp
structure NW (v u : World) (nm s : Sl) (N W : List B) : Prop where
 ow : Mk v 1 encB u s W
 nv : Vw 1 encB u nm N
 ap : N ≠ [] -> ∀ b, inB nm b -> b < u.heap.size /\ ¬ inB s b
section
variable {v w u w' : World} {nm s s' all : Sl} {N W A : List B} {x : T43} {t : Td} {tb : Nat} {c : B}
theorem NW.fr (h : NW v w nm s N W) (hf : Fr F0 w u) : NW v u nm s N W :=
 ⟨h.ow.fr hf, h.nv.fr hf, fun hn b hb => ⟨Nat.lt_of_lt_of_le (h.ap hn b hb).1 hf.1, (h.ap hn b hb).2⟩⟩
theorem NW.push {a : B} {cs : Array Value} {e e' : Nat} {K : SW} (h : NW v w nm s N W) (hc : cs = (encB a).toArray) (hm : W.length <= 2 ^ 40)
  (hK : ∀ r w', NW v w' nm r N (W ++ [a]) -> K r w') : apS 1 16 [(Value.string (str []))] e s ⟨some ⟨w.heap.size, 0, none⟩, 1, 1⟩ (w.alloc (Obj.cells cs e')) K := by
 have f : Fr F0 w (w.alloc (Obj.cells cs e')) := Fr.alloc
 have h' := h.fr f
 refine h'.ow.ow.app (m := [a]) (Vw.new rfl hc) encB_ok rfl (by simp; omega) (by simp; omega) fun r w' ho hf hi => hK r w' ?_
 have hin : ∀ b, inB r b -> inB s b \/ w.heap.size <= b := fun b hb => (hi b hb).imp id fun h => Nat.le_trans f.1 h
 refine ⟨⟨h'.ow.fr0.nb hf h'.ow.nw, ho, fun b hb => ?_⟩, ?_, fun hn b hb => ⟨Nat.lt_of_lt_of_le (h'.ap hn b hb).1 hf.1, fun hr => ?_⟩⟩
 ·rcases hin b hb with h1 | h1
  ·exact h.ow.nw b h1
  ·exact Nat.le_trans h.ow.fr0.1 h1
 ·cases N with
  | nil => exact ⟨h'.nv.len, h'.nv.cap, by have := h'.nv.len; rw [show (([] : List B).flatMap encB) = [] from rfl]; unfold rdC; rw [this]; simp; cases nm.p <;> trivial⟩
  | cons a N => exact h'.nv.frF hf fun b hb => (h'.ap (by simp) b hb).2
 ·rcases hin b hr with h1 | h1
  ·exact (h.ap hn b hb).2 h1
  ·have := (h.ap hn b hb).1
   omega
theorem rUses_l13_spec {K : Sl -> World -> Prop} (ha : Vw 1 encB w all A) (hw : Vw 1 encB w s W) (hl : A.length <= 2 ^ 40) (hl' : W.length <= 2 ^ 41) (hK : ∀ w' s', Mk w 1 encB w' s' (A.filter fun o => decide (o ∈ W)) -> K s' w') : z1l_l13 all s ⟨none, 0, 0⟩ 0 K w := by
 have el := ha.len
 refine ⟨⟨fun out i u => ∃ i' : Nat, i = i' /\ i' <= A.length /\ Mk w 1 encB u out ((A.take i').filter fun o => decide (o ∈ W)), fun _ i _ => A.length - i.toNat, ⟨0, rfl, by omega, Mk.nil Fr.refl⟩, ?_⟩⟩
 rintro out i u ⟨i, rfl, hi, hu⟩
 unfold z1l_b13
 have hlen := hu.len
 have hlen2 : out.l <= i := by rw [hlen]; exact Nat.le_trans (List.length_filter_le _ _) (by simp; omega)
 have hv := ha.fr hu.fr0
 refine cnd_prop.2 ⟨fun hlt => ?_, fun hge => ?_⟩
 ·have hil : i < A.length := by omega
  have et : A.take (i + 1) = A.take i ++ [A[i]] := by rw [List.take_add_one, List.getElem?_eq_getElem hil]; rfl
  refine ldB hv i rfl hil (rhas_spec (hw.fr hu.fr0) (by omega) (cnd_iff.2 ⟨fun h => ?_, fun h => ?_⟩))
  ·refine ldB hv i rfl hil ?_
   refine hu.push (a := A[i]) rfl rfl encB_ok rfl (by omega) (by omega) fun s6 w7 h7 _ => ⟨inR64 (by omega) (by omega), ⟨⟨rfl, rfl, trivial⟩, i + 1, by omega, by omega, ?_⟩, by dsimp only; omega⟩
   rw [et, List.filter_append, List.filter_cons, if_pos h]
   exact h7
  ·refine ⟨inR64 (by omega) (by omega), ⟨⟨rfl, rfl, trivial⟩, i + 1, by omega, by omega, ?_⟩, by dsimp only; omega⟩
   rw [et, List.filter_append, List.filter_cons, if_neg (by rw [h]; decide), List.filter_nil, List.append_nil]
   exact hu
 ·have : i = A.length := by omega
  subst this
  rw [List.take_length] at hu
  exact hK u out hu
theorem rUses_k12_spec {K : Sl -> World -> Prop} (ha : Vw 1 encB v all A) (hm : Mk v 1 encB w s W) (hl : A.length <= 2 ^ 40) (hl' : W.length <= 2 ^ 41) (hK : ∀ w' s', Mk v 1 encB w' s' (A.filter fun o => decide (o ∈ W)) -> K s' w') : z1l_k12 all s K w :=
 ⟨rUses_l13_spec (ha.fr hm.fr0) hm.vw hl hl' fun w' s' h => hK w' s' ⟨hm.fr0.t h.fr0, h.ow, fun b hb => Nat.le_trans hm.fr0.1 (h.nw b hb)⟩⟩
def comL (L : List (List Int)) : List B := L.flatMap fun l => l.map lotC
theorem comL_len {L : List (List Int)} (h : ∀ l ∈ L, l.length <= 2 ^ 20) : (comL L).length <= L.length * 2 ^ 20 := by
 induction L with
 | nil => simp [comL]
 | cons a L ih =>
  have h1 := ih fun l hl => h l (List.mem_cons_of_mem _ hl)
  have h2 := h a (List.mem_cons_self ..)
  have e : comL (a :: L) = a.map lotC ++ comL L := rfl
  rw [e, List.length_append, List.length_map, List.length_cons, Nat.add_mul]
  omega
theorem rUses_l10_spec {K : Sl -> World -> Prop} (hx : TP v x t) (hF : Fit t) (hC : (comL t.combos).length <= 2 ^ 40) (ht : Row v tb x.cs) (ha : Vw 1 encB v all A) (hm : Mk v 1 encB w s W) (hl : A.length <= 2 ^ 40) (hl' : W.length <= 2 ^ 36)
  (hK : ∀ w' s', Mk v 1 encB w' s' (A.filter fun o => decide (o ∈ W ++ comL t.combos)) -> K s' w') : z1l_l10 ⟨tb, 0, none⟩ all s 0 K w := by
 obtain ⟨Z, hZ, hzl, hz⟩ := hx.combos
 have h20 := hF.combos
 have e13 : (x.f13.l : Int) = (t.combos.length : Int) := by rw [hZ.len, hzl]
 have hpre : ∀ L' : List (List Int), L' <+: t.combos -> (comL L').length <= (comL t.combos).length := fun L' ⟨r, hr⟩ => by
  rw [← hr]
  unfold comL
  rw [List.flatMap_append, List.length_append]
  omega
 refine ⟨⟨fun s' k u => ∃ k' : Nat, k = k' /\ k' <= t.combos.length /\ Mk v 1 encB u s' (W ++ comL (t.combos.take k')), fun _ k _ => t.combos.length - k.toNat, ⟨0, rfl, by omega, by simpa [comL] using hm⟩, ?_⟩⟩
 rintro s' k u ⟨k, rfl, hk, hu⟩
 unfold z1l_b10
 have hr := hu.fr0.row ht fun h => h
 refine ⟨x.f13, hr.at (i := 13) rfl, ?_⟩
 rw [e13]
 refine cnd_prop.2 ⟨fun hlt => ?_, fun hge => ?_⟩
 ·have hkl : k < t.combos.length := by omega
  have hkz : k < Z.length := by omega
  obtain ⟨c1, c2⟩ := hF.combo _ (List.getElem_mem hkl)
  have hzk := hz k hkz hkl
  have ezk := hzk.len
  have hp1 := hpre (t.combos.take (k + 1)) (List.take_prefix _ _)
  have et : t.combos.take (k + 1) = t.combos.take k ++ [t.combos[k]] := by rw [List.take_add_one, List.getElem?_eq_getElem hkl]; rfl
  have ec : comL (t.combos.take (k + 1)) = comL (t.combos.take k) ++ t.combos[k].map lotC := by
   rw [et]
   unfold comL
   rw [List.flatMap_append]
   simp
  rw [ec, List.length_append, List.length_map] at hp1
  refine ⟨⟨fun s' j u => ∃ j' : Nat, j = j' /\ j' <= t.combos[k].length /\ Mk v 1 encB u s' (W ++ comL (t.combos.take k) ++ (t.combos[k].take j').map lotC), fun _ j _ => t.combos[k].length - j.toNat, ⟨0, rfl, by omega, by simpa using hu⟩, ?_⟩⟩
  rintro s' j u ⟨j, rfl, hj, hu⟩
  unfold z1l_b11
  have hr := hu.fr0.row ht fun h => h
  have hZu := hZ.fr hu.fr0
  have hlen : ((t.combos[k].take j).map lotC).length <= t.combos[k].length := by simp; omega
  refine ⟨x.f13, hr.at (i := 13) rfl, ldZ hZu k rfl hkz ?_⟩
  refine cnd_prop.2 ⟨fun hlt => ?_, fun hge => ?_⟩
  ·have hjl : j < t.combos[k].length := by omega
   refine ⟨x.f13, hr.at (i := 13) rfl, ldZ hZu k rfl hkz (ldI (hzk.fr hu.fr0) j rfl hjl ?_)⟩
   refine rLot_spec (c2 _ (List.getElem_mem hjl)) fun w8 hf8 => ?_
   refine (hu.fr hf8).push (a := lotC t.combos[k][j]) rfl rfl encB_ok rfl (by simp only [List.length_append]; omega) (by simp only [List.length_append]; omega) fun s2 w2 h2 _ => ⟨inR64 (by omega) (by omega), ⟨⟨rfl, rfl, rfl, trivial⟩, j + 1, by omega, by omega, ?_⟩, by dsimp only; omega⟩
   rw [take_snoc lotC _ hjl, ← List.append_assoc]
   exact h2
  ·have : j = t.combos[k].length := by omega
   subst this
   rw [List.take_length, List.append_assoc, ← ec] at hu
   exact ⟨inR64 (by omega) (by omega), ⟨⟨rfl, rfl, trivial⟩, k + 1, by omega, by omega, hu⟩, by dsimp only; omega⟩
 ·have : k = t.combos.length := by omega
  subst this
  rw [List.take_length] at hu
  exact rUses_k12_spec ha hu hl (by rw [List.length_append]; omega) hK
theorem rUses_k9_spec {K : Sl -> World -> Prop} (hx : TP v x t) (hF : Fit t) (hC : (comL t.combos).length <= 2 ^ 40) (ht : Row v tb x.cs) (ha : Vw 1 encB v all A) (hm : Mk v 1 encB w s W) (hl : A.length <= 2 ^ 40) (hl' : W.length <= 2 ^ 36)
  (hK : ∀ w' s', Mk v 1 encB w' s' (A.filter fun o => decide (o ∈ W ++ (if c = wCombos then comL t.combos else []))) -> K s' w') : z1l_k9 (ofL c) ⟨tb, 0, none⟩ all s K w := by
 refine ⟨?_⟩
 unfold z1l_k9d
 rw [show decide (ofL c = str [99, 111, 109, 98, 111, 115]) = decide (c = wCombos) from ofL_dec c wCombos]
 refine cnd_prop.2 ⟨fun h => ?_, fun h => ?_⟩
 ·rw [if_pos h] at hK
  exact rUses_l10_spec hx hF hC ht ha hm hl hl' hK
 ·rw [if_neg h, List.append_nil] at hK
  exact rUses_k12_spec ha hm hl (by omega) hK
theorem rUses_k8_spec {K : Sl -> World -> Prop} (hx : TP v x t) (hF : Fit t) (hC : (comL t.combos).length <= 2 ^ 40) (ht : Row v tb x.cs) (ha : Vw 1 encB v all A) (hm : Mk v 1 encB w s W) (hl : A.length <= 2 ^ 40) (hl' : W.length <= 2 ^ 35)
  (hK : ∀ w' s', Mk v 1 encB w' s' (A.filter fun o => decide (o ∈ W ++ ((if c = wBudget then [wCombos] else []) ++ (if c = wCombos then comL t.combos else [])))) -> K s' w') : z1l_k8 (ofL c) ⟨tb, 0, none⟩ all s K w := by
 refine ⟨?_⟩
 unfold z1l_k8d
 rw [show decide (ofL c = str [98, 117, 100, 103, 101, 116]) = decide (c = wBudget) from ofL_dec c wBudget]
 refine cnd_prop.2 ⟨fun h => ?_, fun h => ?_⟩
 ·rw [if_pos h] at hK
  refine hm.push (a := wCombos) rfl rfl encB_ok rfl (by omega) (by omega) fun s2 w2 h2 _ => rUses_k9_spec hx hF hC ht ha h2 hl (by simp; omega) ?_
  rw [List.append_assoc]
  exact hK
 ·rw [if_neg h, List.nil_append] at hK
  exact rUses_k9_spec hx hF hC ht ha hm hl (by omega) hK
theorem rUses_k6_spec {K : Sl -> World -> Prop} (hx : TP v x t) (hF : Fit t) (hC : (comL t.combos).length <= 2 ^ 40) (ht : Row v tb x.cs) (ha : Vw 1 encB v all A) (hm : Mk v 1 encB w s W) (hl : A.length <= 2 ^ 40) (hl' : W.length <= 2 ^ 34)
  (hK : ∀ w' s', Mk v 1 encB w' s' (A.filter fun o => decide (o ∈ W ++ (t.lots.map (fun l => lotC l.1) ++ ((if c = wBudget then [wCombos] else []) ++ (if c = wCombos then comL t.combos else []))))) -> K s' w') : z1l_k6 (ofL c) ⟨tb, 0, none⟩ all s K w := by
 have h20 := hF.lots
 have e1 : (x.f1.l : Int) = (t.lots.length : Int) := by rw [hx.lots.len]
 refine ⟨⟨⟨fun s' i u => ∃ i' : Nat, i = i' /\ i' <= t.lots.length /\ Mk v 1 encB u s' (W ++ (t.lots.take i').map fun l => lotC l.1), fun _ i _ => t.lots.length - i.toNat, ⟨0, rfl, by omega, by simpa using hm⟩, ?_⟩⟩⟩
 rintro s' i u ⟨i, rfl, hi, hu⟩
 unfold z1l_b7
 have hr := hu.fr0.row ht fun h => h
 refine ⟨x.f1, hr.at (i := 1) rfl, ?_⟩
 rw [e1]
 refine cnd_prop.2 ⟨fun hlt => ?_, fun hge => ?_⟩
 ·have hil : i < t.lots.length := by omega
  refine ⟨x.f1, hr.at (i := 1) rfl, Vw.go encL_length (by decide) (hx.lots.fr hu.fr0) i rfl hil fun _ hc => ⟨_, hc 0 _ rfl, ?_⟩⟩
  refine rLot_spec (hF.lot _ (List.getElem_mem hil)).1 fun w8 hf8 => ?_
  refine (hu.fr hf8).push (a := lotC t.lots[i].1) rfl rfl encB_ok rfl (by simp; omega) (by simp; omega) fun s2 w2 h2 _ => ⟨inR64 (by omega) (by omega), ⟨⟨rfl, rfl, rfl, trivial⟩, i + 1, by omega, by omega, ?_⟩, by dsimp only; omega⟩
  rw [take_snoc (fun l => lotC l.1) _ hil, ← List.append_assoc]
  exact h2
 ·have : i = t.lots.length := by omega
  subst this
  rw [List.take_length] at hu
  refine rUses_k8_spec hx hF hC ht ha hu hl (by simp; omega) ?_
  rw [List.append_assoc]
  exact hK
theorem rUses_k5_spec {K : Sl -> World -> Prop} (hx : TP v x t) (hF : Fit t) (hC : (comL t.combos).length <= 2 ^ 40) (ht : Row v tb x.cs) (ha : Vw 1 encB v all A) (hm : Mk v 1 encB w s W) (hl : A.length <= 2 ^ 40) (hl' : W.length <= 2 ^ 34)
  (hK : ∀ w' s', Mk v 1 encB w' s' (A.filter fun o => decide (o ∈ W ++ ((if c = wMost \/ c = wBudget then t.lots.map (fun l => lotC l.1) else []) ++ ((if c = wBudget then [wCombos] else []) ++ (if c = wCombos then comL t.combos else []))))) -> K s' w') : z1l_k5 (ofL c) ⟨tb, 0, none⟩ all s K w := by
 refine ⟨?_⟩
 unfold z1l_k5d
 rw [show decide (ofL c = str [98, 117, 100, 103, 101, 116]) = decide (c = wBudget) from ofL_dec c wBudget, show decide (ofL c = str [109, 111, 115, 116]) = decide (c = wMost) from ofL_dec c wMost]
 refine cnd_prop.2 ⟨fun h => ?_, fun h => cnd_prop.2 ⟨fun h' => ?_, fun h' => ?_⟩⟩
 ·rw [if_pos (Or.inl h)] at hK
  exact rUses_k6_spec hx hF hC ht ha hm hl hl' hK
 ·rw [if_pos (Or.inr h')] at hK
  exact rUses_k6_spec hx hF hC ht ha hm hl hl' hK
 ·rw [if_neg (by simp [h, h']), List.nil_append] at hK
  exact rUses_k8_spec hx hF hC ht ha hm hl (by omega) hK
def namW (c : B) (N : List B) : List B := N.flatMap fun n => critC n :: if n = wPrice \/ (n = wLow /\ c = wForm) then [wRange] else []
theorem namW_len (c : B) (N : List B) : (namW c N).length <= 2 * N.length := by
 induction N with
 | nil => simp [namW]
 | cons a N ih =>
  have e : namW c (a :: N) = (critC a :: if a = wPrice \/ (a = wLow /\ c = wForm) then [wRange] else []) ++ namW c N := rfl
  rw [e, List.length_append, List.length_cons, List.length_cons]
  split <;> simp <;> omega
theorem rUses_k2_spec {K : Sl -> World -> Prop} (hx : TP v x t) (hF : Fit t) (hC : (comL t.combos).length <= 2 ^ 40) (ht : Row v tb x.cs) (ha : Vw 1 encB v all A) (hm : NW v w nm s N W) (hl : A.length <= 2 ^ 40) (hl' : W.length <= 2 ^ 20) (hN : N.length <= 2 ^ 31) (hNs : ∀ s ∈ N, s.length <= 2 ^ 30)
  (hK : ∀ w' s', Mk v 1 encB w' s' (A.filter fun o => decide (o ∈ W ++ (namW c N ++ ((if c = wMost \/ c = wBudget then t.lots.map (fun l => lotC l.1) else []) ++ ((if c = wBudget then [wCombos] else []) ++ (if c = wCombos then comL t.combos else [])))))) -> K s' w') : z1l_k2 (ofL c) ⟨tb, 0, none⟩ all s nm K w := by
 have el := hm.nv.len
 refine ⟨⟨⟨fun s' i u => ∃ i' : Nat, i = i' /\ i' <= N.length /\ NW v u nm s' N (W ++ namW c (N.take i')), fun _ i _ => N.length - i.toNat, ⟨0, rfl, by omega, by simpa [namW] using hm⟩, ?_⟩⟩⟩
 rintro s' i u ⟨i, rfl, hi, hu⟩
 unfold z1l_b3
 have hln := namW_len c (N.take i)
 have hlt' : (N.take i).length <= N.length := by simp; omega
 refine cnd_prop.2 ⟨fun hlt => ?_, fun hge => ?_⟩
 ·have hil : i < N.length := by omega
  have hns := hNs _ (List.getElem_mem hil)
  have e1 : namW c (N.take (i + 1)) = namW c (N.take i) ++ (critC N[i] :: if N[i] = wPrice \/ (N[i] = wLow /\ c = wForm) then [wRange] else []) := by
   rw [List.take_add_one, List.getElem?_eq_getElem hil]
   unfold namW
   rw [List.flatMap_append]
   simp
  refine ldB hu.nv i rfl hil ?_
  rw [str_crit, ofL_sz, ofL_sz, ofL_app]
  refine ⟨by unfold maxI; simp [wCrit]; omega, hu.push (a := critC N[i]) rfl (by rw [List.length_append]; omega) fun s2 w2 h2 => ldB h2.nv i rfl hil ?_⟩
  have k4 : (N[i] = wPrice \/ (N[i] = wLow /\ c = wForm)) -> ∀ {N3 : ByteArray -> Addr -> Sl -> Sl -> Sl -> Int -> World -> Prop}, (∀ s3 w3, NW v w3 nm s3 N (W ++ namW c (N.take (i + 1))) -> N3 (ofL c) ⟨tb, 0, none⟩ all s3 nm ((i : Int) + 1) w3) -> z1l_k4 (ofL c) ⟨tb, 0, none⟩ all s2 nm (i : Int) N3 K w2 := fun hp N3 h3 => by
   refine ⟨?_⟩
   unfold z1l_k4d
   refine h2.push (a := wRange) rfl (by simp only [List.length_append, List.length_cons, List.length_nil]; omega) fun s3 w3 g3 => ⟨inR64 (by omega) (by omega), h3 s3 w3 ?_⟩
   rw [e1, if_pos hp, show critC N[i] :: [wRange] = [critC N[i]] ++ [wRange] from rfl, ← List.append_assoc, ← List.append_assoc]
   exact g3
  have nx : ¬ (N[i] = wPrice \/ (N[i] = wLow /\ c = wForm)) -> NW v w2 nm s2 N (W ++ namW c (N.take (i + 1))) := fun hp => by
   rw [e1, if_neg hp, ← List.append_assoc]
   exact h2
  rw [show decide (ofL N[i] = str [112, 114, 105, 99, 101]) = decide (N[i] = wPrice) from ofL_dec _ wPrice]
  refine cnd_prop.2 ⟨fun h => k4 (.inl h) fun s3 w3 g3 => ⟨⟨⟨rfl, rfl, rfl, rfl, trivial⟩, i + 1, by omega, by omega, g3⟩, by dsimp only; omega⟩, fun h => ldB h2.nv i rfl hil ?_⟩
  rw [show decide (ofL N[i] = str [108, 111, 119]) = decide (N[i] = wLow) from ofL_dec _ wLow, show decide (ofL c = str [102, 111, 114, 109, 117, 108, 97]) = decide (c = wForm) from ofL_dec c wForm]
  refine cnd_prop.2 ⟨fun h1 => cnd_prop.2 ⟨fun h2' => k4 (.inr ⟨h1, h2'⟩) fun s3 w3 g3 => ⟨⟨⟨rfl, rfl, rfl, rfl, trivial⟩, i + 1, by omega, by omega, g3⟩, by dsimp only; omega⟩, fun h2' => ?_⟩, fun h1 => ?_⟩
  ·exact ⟨inR64 (by omega) (by omega), ⟨⟨rfl, rfl, rfl, rfl, trivial⟩, i + 1, by omega, by omega, nx (by simp [h, h2'])⟩, by dsimp only; omega⟩
  ·exact ⟨inR64 (by omega) (by omega), ⟨⟨rfl, rfl, rfl, rfl, trivial⟩, i + 1, by omega, by omega, nx (by simp [h, h1])⟩, by dsimp only; omega⟩
 ·have : i = N.length := by omega
  subst this
  rw [List.take_length] at hu hln
  refine rUses_k5_spec hx hF hC ht ha hu.ow hl (by rw [List.length_append]; omega) ?_
  rw [List.append_assoc]
  exact hK
theorem rUses_k1_spec {K : Sl -> World -> Prop} (hx : TP v x t) (hF : Fit t) (hC : (comL t.combos).length <= 2 ^ 40) (ht : Row v tb x.cs) (ha : Vw 1 encB v all A) (hm : NW v w nm s N W) (hl : A.length <= 2 ^ 40) (hl' : W.length <= 2 ^ 20) (hN : N.length <= 2 ^ 31) (hNs : ∀ s ∈ N, s.length <= 2 ^ 30)
  (hK : ∀ w' s', Mk v 1 encB w' s' (A.filter fun o => decide (o ∈ W ++ ((if c = wTies \/ c = wForm then namW c N else []) ++ ((if c = wMost \/ c = wBudget then t.lots.map (fun l => lotC l.1) else []) ++ ((if c = wBudget then [wCombos] else []) ++ (if c = wCombos then comL t.combos else [])))))) -> K s' w') : z1l_k1 (ofL c) ⟨tb, 0, none⟩ all s nm K w := by
 refine ⟨?_⟩
 unfold z1l_k1d
 rw [show decide (ofL c = str [116, 105, 101, 115]) = decide (c = wTies) from ofL_dec c wTies, show decide (ofL c = str [102, 111, 114, 109, 117, 108, 97]) = decide (c = wForm) from ofL_dec c wForm]
 refine cnd_prop.2 ⟨fun h => ?_, fun h => cnd_prop.2 ⟨fun h' => ?_, fun h' => ?_⟩⟩
 ·rw [if_pos (Or.inl h)] at hK
  exact rUses_k2_spec hx hF hC ht ha hm hl hl' hN hNs hK
 ·rw [if_pos (Or.inr h')] at hK
  exact rUses_k2_spec hx hF hC ht ha hm hl hl' hN hNs hK
 ·rw [if_neg (by simp [h, h']), List.nil_append] at hK
  exact rUses_k5_spec hx hF hC ht ha hm.ow hl (by omega) hK
def reqW (t : Td) (c : B) (n : Nat) : List B := ((List.range n).filter (fun k => decide (c = reqC k))).map (fun k => critC ((t.reqs[k]?.map (·.name)).getD []))
theorem reqW_len (t : Td) (c : B) (n : Nat) : (reqW t c n).length <= n := by
 unfold reqW
 rw [List.length_map]
 exact Nat.le_trans (List.length_filter_le _ _) (by simp)
theorem namesR_len {e : Fm} {s : B} (h : s ∈ e.namesR) : s.length <= 30 := by
 unfold Fm.namesR at h
 split at h
 ·rename_i hr
  have hs : e.sound = true := by
   unfold Fm.right at hr
   simp only [Bool.and_eq_true] at hr
   exact hr.1
  clear hr
  induction e with
  | num n d => simp [Fm.names] at h
  | name r =>
   simp only [Fm.names, List.mem_singleton] at h
   subst h
   simp only [Fm.sound, nameOk, Bool.and_eq_true] at hs
   have := hs.1
   unfold isNameB at this
   split at this
   ·cases this
   ·simp only [Bool.and_eq_true, decide_eq_true_eq] at this
    exact this.1
  | op o a b iha ihb =>
   simp only [Fm.sound, Bool.and_eq_true] at hs
   simp only [Fm.names, List.mem_append] at h
   rcases h with h | h
   ·exact iha h hs.1
   ·exact ihb h hs.2
 ·cases h
theorem rUses_spec {K : Sl -> World -> Prop} (hx : TP w x t) (hF : Fit t) (hK : ∀ w' s', Mk w 1 encB w' s' (uses t c) -> K s' w') : z1l_sh x (ofL c) K w := by
 have h20 := hF.reqs
 have h1 := hF.lots
 have h2 := hF.crit
 have h4 := hF.ties
 have h5 := hF.combos
 have hp := hF.fp
 have hC : (comL t.combos).length <= 2 ^ 40 := by
  have := comL_len (L := t.combos) fun l hl => (hF.combo l hl).1
  omega
 have hcl := clauses_len t
 refine ⟨?_⟩
 unfold z1l_sd
 intro w1
 have m : Mem w w1 [(w.heap.size, x.cs)] := Mem.nil.allocL
 clear_value w1
 refine T43.ld_row (m.row 0 rfl) (rClauses_spec (hx.fr m.1) hF fun v all hall => ?_)
 have F := m.1.t hall.fr0
 refine rhas_spec hall.vw (by omega) (cnd_iff.2 ⟨fun h => ?_, fun h => ?_⟩)
 ·refine hK v _ ?_
  have : c ∉ clauses t := by simpa using h
  unfold uses
  rw [if_neg this]
  exact Mk.nil F
 have hc : c ∈ clauses t := by simpa using h
 have ht : Row v w.heap.size x.cs := hall.fr0.row (m.row 0 rfl) fun h => h
 have hxv := hx.fr F
 have e3 : (x.f3.l : Int) = (t.reqs.length : Int) := by rw [hx.reqs.len]
 refine ⟨⟨fun s' i u => ∃ i' : Nat, i = i' /\ i' <= t.reqs.length /\ Mk v 1 encB u s' (reqW t c i'), fun _ i _ => t.reqs.length - i.toNat, ⟨0, rfl, by omega, Mk.nil Fr.refl⟩, ?_⟩⟩
 rintro s' i u ⟨i, rfl, hi, hu⟩
 unfold z1l_b0
 have hr := hu.fr0.row ht fun h => h
 have hwl := reqW_len t c i
 refine ⟨x.f3, hr.at (i := 3) rfl, ?_⟩
 rw [e3]
 refine cnd_prop.2 ⟨fun hlt => ?_, fun hge => ?_⟩
 ·have hil : i < t.reqs.length := by omega
  have h64 : I64 ((i : Int) + 1) := ⟨by omega, by omega⟩
  have := itoa_len' h64
  have hn20 := (hF.rq _ (List.getElem_mem hil)).1
  refine ⟨inR64 (by omega) (by omega), rdecimal_spec h64 fun w8 f8 => ?_⟩
  rw [str_req, ofL_sz, ofL_sz, ofL_app, ofL_dec]
  refine ⟨by unfold maxI; simp [wReq]; omega, cnd_prop.2 ⟨fun he => ?_, fun he => ?_⟩⟩
  ·have he : c = reqC i := he
   refine ⟨x.f3, (f8.row hr fun h => h).at (i := 3) rfl, Vw.go encR_length (by decide) (hxv.reqs.fr (hu.fr0.t f8)) i rfl hil fun _ hc => ⟨_, hc 0 _ rfl, ?_⟩⟩
   rw [str_crit, ofL_sz, ofL_sz, ofL_app]
   refine ⟨by unfold maxI; simp [wCrit]; omega, (hu.fr f8).push (a := critC t.reqs[i].name) rfl rfl encB_ok rfl (by omega) (by omega) fun s2 w2 g2 _ => ⟨inR64 (by omega) (by omega), ⟨⟨rfl, rfl, rfl, trivial⟩, i + 1, by omega, by omega, ?_⟩, by dsimp only; omega⟩⟩
   have e : reqW t c (i + 1) = reqW t c i ++ [critC t.reqs[i].name] := by
    unfold reqW
    rw [List.range_succ, List.filter_append, List.map_append, List.filter_cons, if_pos (decide_eq_true he)]
    simp [hil]
   rw [e]
   exact g2
  ·refine ⟨inR64 (by omega) (by omega), ⟨⟨rfl, rfl, rfl, trivial⟩, i + 1, by omega, by omega, ?_⟩, by dsimp only; omega⟩
   have e : reqW t c (i + 1) = reqW t c i := by
    unfold reqW
    have : ¬ decide (c = reqC i) = true := fun h => he (of_decide_eq_true h)
    rw [List.range_succ, List.filter_append, List.filter_cons, if_neg this, List.filter_nil, List.append_nil]
   rw [e]
   exact hu.fr f8
 ·have : i = t.reqs.length := by omega
  subst this
  refine ⟨_, hr.at (i := 6) rfl, _, hr.at (i := 7) rfl, _, hr.at (i := 8) rfl, _, hr.at (i := 9) rfl, x.f10, hr.at (i := 10) rfl, ?_⟩
  refine rNames_spec (c := ⟨x.f6, x.f7, x.f8, x.f9, x.f10⟩) (hxv.fm.fr hu.fr0) (by omega) fun w21 r22 N f21 v21 n21 hN hNl => ?_
  have hu21 := hu.fr f21
  have lst : ∀ b, inB s' b -> b < u.heap.size := fun b hb => hu.ow.lt' hb
  have fin : ∀ w' s'', Mk v 1 encB w' s'' ((clauses t).filter fun o => decide (o ∈ reqW t c t.reqs.length ++ ((if c = wTies \/ c = wForm then namW c (if c = wTies then t.ties else N) else []) ++ ((if c = wMost \/ c = wBudget then t.lots.map (fun l => lotC l.1) else []) ++ ((if c = wBudget then [wCombos] else []) ++ (if c = wCombos then comL t.combos else [])))))) -> K s'' w' := fun w' s'' h => by
   refine hK w' s'' ?_
   rw [← uses_ref hN hc]
   exact ⟨F.t h.fr0, h.ow, fun b hb => Nat.le_trans F.1 (h.nw b hb)⟩
  rw [show decide (ofL c = str [116, 105, 101, 115]) = decide (c = wTies) from ofL_dec c wTies]
  refine cnd_prop.2 ⟨fun h => ?_, fun h => ?_⟩
  ·rw [if_pos h] at fin
   refine ⟨x.f11, (f21.row hr fun h => h).at (i := 11) rfl, ?_⟩
   refine rUses_k1_spec hxv hF hC ht hall.vw ⟨hu21, hxv.ties.fr hu21.fr0, fun hne b hb => ?_⟩ (by omega) (by omega) (by omega) (fun s hs => by have := hF.tie s hs; omega) fin
   have := hxv.ties.lt encB_length (by decide) hne b hb
   have h3 := hu21.fr0.1
   exact ⟨by omega, fun hs => by have := hu.nw b hs; omega⟩
  ·rw [if_neg h] at fin
   refine rUses_k1_spec hxv hF hC ht hall.vw ⟨hu21, v21, fun hne b hb => ?_⟩ (by omega) (by omega) (by omega) (fun s hs => by have := namesR_len ((hN s).1 hs); omega) fin
   have := v21.lt encB_length (by decide) hne b hb
   exact ⟨this, fun hs => by have := lst b hs; have := n21 b hb; omega⟩
end
end Go.Proofs.YtfkmpbpkahcogaaGreatDoor
namespace Pw
open Go
theorem e32 : str [32] = ofL [32] := rfl
end Pw
namespace Go.Proofs.YtfkmpbpkahcogaaGreatDoor
open Go Pw Dp
section
variable {v w u w' : World} {x y : T43} {a b : Td} {b1 b2 : Nat} {c : B} {s s' all us : Sl} {A S U : List B}
theorem Fit.cl {t : Td} (h : Fit t) : (clauses t).length <= 2 ^ 22 := by
 have := clauses_len t
 have := h.lots; have := h.crit; have := h.reqs
 omega
end
end Go.Proofs.YtfkmpbpkahcogaaGreatDoor
set_option maxRecDepth 20000
namespace Go.Proofs.YtfkmpbpkahcogaaGreatDoor
open Go Pw
def probitylaw07_DependClauses_b0 (head_5 : Bool) (t_6 : Addr) (t_23 : Sl) (t_24 : Int) (t_25 : Int) (N0 : Bool -> Addr -> Sl -> Int -> Int -> World -> Prop)  (K : Bool -> World -> Prop) (w : World) : Prop :=
 cnd (decide (t_25 < t_24))
  (nz t_23.p fun a20 => (0 <= t_25 /\ t_25 < (t_23.l : Nat)) /\ ∃ x21 : ByteArray, w.cell? (a20.add (t_25.toNat * 1)) = some (Value.string x21) /\ let w22 : World := w.drew
 ∃ S23 : World -> Prop, S23 w22 /\ T43.lds S23 t_6 fun (x24 : T43) => T43.lds S23 t_6 fun (x25 : T43) => z2s_sh x24 x21 (fun (r27 : Sl) (w26 : World) => S23 w26 /\ z1l_sh x25 x21 (fun (r29 : Sl) (w28 : World) => S23 w28 /\ z26_sh r27 r29 (fun (r31 : Bool) (w30 : World) => S23 w30 /\ cnd (!r31)
  (K false w30)
  (inR .i64 (t_25 + (1 : Int)) /\ N0 head_5 t_6 t_23 t_24 (t_25 + (1 : Int)) w30)) w28) w26) w22)
  (K head_5 w)
def probitylaw07_DependClauses_l0d (head_5 : Bool) (t_6 : Addr) (t_23 : Sl) (t_24 : Int) (t_25 : Int)  (K : Bool -> World -> Prop) (w : World) : Prop :=
 ∃ (I : Int -> World -> Prop) (μ : Int -> World -> Nat), I t_25 w /\ ∀ (t_251 : Int) (w1 : World), I t_251 w1 ->
  probitylaw07_DependClauses_b0 head_5 t_6 t_23 t_24 t_251 (fun (head_5' : Bool) (t_6' : Addr) (t_23' : Sl) (t_24' : Int) (t_25' : Int) (w' : World) => ((head_5' = head_5 /\ t_6' = t_6 /\ t_23' = t_23 /\ t_24' = t_24 /\ True) /\ I t_25' w') /\ μ t_25' w' < μ t_251 w1)  K w1
structure probitylaw07_DependClauses_l0 (head_5 : Bool) (t_6 : Addr) (t_23 : Sl) (t_24 : Int) (t_25 : Int)  (K : Bool -> World -> Prop) (w : World) : Prop where
 out : probitylaw07_DependClauses_l0d head_5 t_6 t_23 t_24 t_25 K w
def probitylaw07_DependClauses_sd (p_0 : T29) (s_1 : ByteArray) (K : Bool -> World -> Prop) (w : World) : Prop :=
 let w1 : World := w.alloc (Obj.cells (T29.cs p_0).toArray 29)
 z0o_sh (fun (r3 : Bool) (w2 : World) => T29.ld w2 (Addr.mk w.heap.size 0 none) fun (x4 : T29) => z03_sh x4 (fun (r6 : T43) (w5 : World) => let w7 : World := w5.alloc (Obj.cells (T43.cs (T43.mk (str []) (Sl.mk none 0 0) (Sl.mk none 0 0) (Sl.mk none 0 0) (0 : Int) (0 : Int) (str []) (0 : Int) (0 : Int) (str []) (Sl.mk none 0 0) (Sl.mk none 0 0) (0 : Int) (Sl.mk none 0 0) (0 : Int) (0 : Int) (0 : Int) (0 : Int) (0 : Int) (0 : Int))).toArray 43)
 stN w7 (Addr.mk w5.heap.size 0 none) (T43.cs r6) fun (w8 : World) => T43.ld w8 (Addr.mk w5.heap.size 0 none) fun (x9 : T43) => z2d_sh x9 (fun (r11 : Sl) (w10 : World) => T43.ld w10 (Addr.mk w5.heap.size 0 none) fun (x12 : T43) => z0i_sh x12 (fun (r14 : Sl) (w13 : World) => z26_sh r11 r14 (fun (r16 : Bool) (w15 : World) => cnd (!r16)
  (K false w15)
  (let w17 : World := w15.alloc (Obj.cells #[(Value.string s_1), (Value.string (str [108, 111, 116, 32, 57])), (Value.string (str [114, 101, 113, 117, 105, 114, 101, 32, 48])), (Value.string (str [114, 101, 113, 117, 105, 114, 101, 32, 57])), (Value.string (str [99, 114, 105, 116, 101, 114, 105, 111, 110, 32, 111, 116, 104, 101, 114]))] 9)
 apS 1 16 [(Value.string (str []))] 9 r11 (Sl.mk (some (Addr.mk w15.heap.size 0 none)) 5 5) w17 fun (s18 : Sl) (w19 : World) => probitylaw07_DependClauses_l0 r3 (Addr.mk w5.heap.size 0 none) s18 (s18.l : Int) (0 : Int) K w19)) w13) w10) w8) w2) w1
structure probitylaw07_DependClauses_sh (p_0 : T29) (s_1 : ByteArray) (K : Bool -> World -> Prop) (w : World) : Prop where
 out : probitylaw07_DependClauses_sd p_0 s_1 K w
def probitylaw07_DependClauses_L0 (Kv : VW) : Cur [tB, tQ, tL, tI, tI] WP := fun head_5 t_6 t_23 t_24 t_25 => probitylaw07_DependClauses_l0 head_5 t_6 t_23 t_24 t_25 (kk [tB] Kv)
noncomputable def probitylaw07_DependClauses_S : Pw.Spec := fun vs w Kv => un (.g 16 :: tL :: tL :: tL :: tL :: tL :: tL :: tI :: tI :: tI :: tI :: tI :: tI :: tI :: tI :: tI :: tI :: tS :: []) (fun p_0_0 p_0_1 p_0_2 p_0_3 p_0_4 p_0_5 p_0_6 p_0_7 p_0_8 p_0_9 p_0_10 p_0_11 p_0_12 p_0_13 p_0_14 p_0_15 s_1 => probitylaw07_DependClauses_sh ⟨p_0_0, p_0_1, p_0_2, p_0_3, p_0_4, p_0_5, p_0_6, p_0_7, p_0_8, p_0_9, p_0_10, p_0_11, p_0_12, p_0_13, p_0_14, p_0_15⟩ s_1 (kk [tB] Kv)) nF vs w
def probitylaw07_DependClauses_A (Kv : VW) : A := (qr 2 (qr 2 (qr 4 (qr 3 (qs (qr 5 (qc (qr 1 ql) ql)) (qs (qr 6 (qb (A.loop [5, 6, 23, 24, 25] (uR0 [tB, tQ, tL, tI, tI] (probitylaw07_DependClauses_L0 Kv)) (qr 1 (qs (qc ql ql) (qs (qb (qr 3 (qs (A.drw (dp [0, 1, 3, 4] (DA.eff 2 (DA.eff 5 (DA.eff 6 (DA.pur 7 DA.done)))))) (qc (qr 1 ql) ql)))) (qe 2))))))) (qr 2 ql)))))))
theorem probitylaw07_DependClauses_ok : Sound Tryz.prog 3 probitylaw07_DependClauses_S := okS (x := probitylaw07_DependClauses_A) (fun Kv p_0_0 p_0_1 p_0_2 p_0_3 p_0_4 p_0_5 p_0_6 p_0_7 p_0_8 p_0_9 p_0_10 p_0_11 p_0_12 p_0_13 p_0_14 p_0_15 s_1 => probitylaw07_DependClauses_sd ⟨p_0_0, p_0_1, p_0_2, p_0_3, p_0_4, p_0_5, p_0_6, p_0_7, p_0_8, p_0_9, p_0_10, p_0_11, p_0_12, p_0_13, p_0_14, p_0_15⟩ s_1 (kk [tB] Kv)) progMixed (Γ := [(10, z0o_S), (11, z03_S), (12, z2d_S), (13, z26_S), (14, z0i_S), (15, z2s_S), (16, z1l_S)]) ⟨.inl z0o_ok, .inl z03_ok, .inl z2d_ok, .inl z26_ok, .inl z0i_ok, .inl z2s_ok, .inl z1l_ok, trivial⟩ Tryz.call3 Tryz.func3 (fun Kv => hStep (hLoop0 (L := probitylaw07_DependClauses_L0 Kv) (fun N0 head_5 t_6 t_23 t_24 t_25 => probitylaw07_DependClauses_b0 head_5 t_6 t_23 t_24 t_25 N0 (kk [tB] Kv)) (fun ⟨a0, a1, a2, a3, _, _⟩ _ h => let ⟨I, μ, h0, hr⟩ := h.out; ⟨fun b0 b1 b2 b3 b4 w => (b0 = a0 /\ b1 = a1 /\ b2 = a2 /\ b3 = a3 /\ True) /\ I b4 w, fun _ _ _ _ b4 w => μ b4 w, ⟨⟨rfl, rfl, rfl, rfl, trivial⟩, h0⟩, fun ⟨_, _, _, _, _, _⟩ _ ⟨⟨e0, e1, e2, e3, _⟩, hI⟩ => by cases e0; cases e1; cases e2; cases e3; exact hr _ _ hI⟩)) <| hEnd)
end Go.Proofs.YtfkmpbpkahcogaaGreatDoor
namespace Go.Proofs.YtfkmpbpkahcogaaGreatDoor
open Go Pw Dp
def extra (s : B) : List B := [s, [108, 111, 116, 32, 57], [114, 101, 113, 117, 105, 114, 101, 32, 48], [114, 101, 113, 117, 105, 114, 101, 32, 57], [99, 114, 105, 116, 101, 114, 105, 111, 110, 32, 111, 116, 104, 101, 114]]
section
variable {w : World} {x : T29} {p : Pn} {K : Bool -> World -> Prop}
theorem Clauses_fr {s : ByteArray} (g : GlT w) (hp : PP w x p) (hf : PFit p) (hK : ∀ w', Fr F0 w w' -> K true w') : probitylaw07_DependClauses_sh x s K w := by
 refine ⟨?_⟩
 unfold probitylaw07_DependClauses_sd
 intro w1
 have m : Mem w w1 [(w.heap.size, x.cs)] := Mem.nil.allocL
 clear_value w1
 refine sanity_spec (g.fr m.1) fun w2 f2 => ?_
 have m := m.fr f2
 refine T29.ld_row (m.row 0 rfl) (TenderW_spec (hp.fr m.1) hf fun w5 r6 Z f5 T O => ?_)
 have m := m.fr f5
 refine stN_new (vs := r6.cs) rfl Mem.nil fun w8 m8 => ?_
 have A := (tdP_fitK hf).fit
 have F8 := m.1.t m8.1
 have hr := m8.row 0 rfl
 have U := (T.tp.tp ⟨Z, O.vw, T.io.inz⟩).fr m8.1
 have g8 := g.fr F8
 generalize w5.heap.size = tb at *
 have hcl := A.cl
 have lu : ∀ c, (uses (tdP p) c).length <= (clauses (tdP p)).length := uses_len _
 refine T43.ld_row hr (Clauses_spec U A g8 fun w10 r11 h11 => ?_)
 refine T43.ld_row (h11.fr0.row hr fun h => h) (rClauses_spec (U.fr h11.fr0) A fun w13 r14 h14 => ?_)
 refine is_spec (h11.vw.fr h14.fr0) h14.vw (by omega) fun w15 f15 => ?_
 rw [decide_eq_true rfl]
 show cnd false _ _
 rw [cnd_false]
 intro w17
 have F15 := h11.fr0.t (h14.fr0.t f15)
 have hr17 : Row w17 w15.heap.size ((extra (bl s)).flatMap encB) := by
  have e : (extra (bl s)).flatMap encB = [(Value.string s), (Value.string (str [108, 111, 116, 32, 57])), (Value.string (str [114, 101, 113, 117, 105, 114, 101, 32, 48])), (Value.string (str [114, 101, 113, 117, 105, 114, 101, 32, 57])), (Value.string (str [99, 114, 105, 116, 101, 114, 105, 111, 110, 32, 111, 116, 104, 101, 114]))] := by
   have : ofL (bl s) = s := bl_inj (bl_ofL _)
   unfold extra encB
   simp only [List.flatMap_cons, List.flatMap_nil, List.append_nil, List.cons_append, List.nil_append, this]
   rfl
  rw [e]
  exact Row.new
 have f17 : Fr F0 w15 w17 := Fr.alloc
 clear_value w17
 have h17 := (h11.fr (h14.fr0.t f15)).fr f17
 refine h17.app (m := extra (bl s)) (Row.ow encB_length hr17).vw encB_ok rfl (by simp [extra]; omega) (by simp [extra]; omega) fun s18 w19 h19 _ => ?_
 have F19 : Fr F0 w8 w19 := h19.fr0
 have el := h19.len
 generalize hC : clauses (tdP p) ++ extra (bl s) = C at *
 have hCl : C.length <= 2 ^ 23 := by rw [← hC]; simp [extra]; omega
 refine ⟨⟨fun i u => ∃ i' : Nat, i = i' /\ i' <= C.length /\ Fr F0 w19 u, fun i _ => C.length - i.toNat, ⟨0, rfl, by omega, Fr.refl⟩, ?_⟩⟩
 rintro i u ⟨i, rfl, hi, hu⟩
 unfold probitylaw07_DependClauses_b0
 have Fu := F19.t hu
 refine cnd_prop.2 ⟨fun hlt => ?_, fun hge => hK u (F8.t Fu)⟩
 have hil : i < C.length := by omega
 refine ldB (h19.vw.fr hu) i rfl hil ?_
 intro w22
 have f22 : Fr F0 u w22 := Fr.drew
 clear_value w22
 have F22 := Fu.t f22
 have R : ∀ e, Fr F0 w22 e -> Row e tb r6.cs := fun e he => (F22.t he).row hr fun h => h
 refine ⟨fun e => Fr F0 w22 e, Fr.refl, T43.lds_row R (T43.lds_row R ?_)⟩
 have l1 := lu C[i]
 refine Uses_spec (U.fr F22) A (g8.fr F22) fun w26 s1 m1 => ⟨m1.fr0, ?_⟩
 refine rUses_spec (U.fr (F22.t m1.fr0)) A fun w28 s2 m2 => ⟨m1.fr0.t m2.fr0, ?_⟩
 refine is_spec (m1.vw.fr m2.fr0) m2.vw (by omega) fun w30 f30 => ⟨m1.fr0.t (m2.fr0.t f30), ?_⟩
 rw [decide_eq_true rfl]
 show cnd false _ _
 rw [cnd_false]
 exact ⟨inR64 (by omega) (by omega), ⟨⟨rfl, rfl, rfl, rfl, trivial⟩, i + 1, by omega, by omega, hu.t (f22.t (m1.fr0.t (m2.fr0.t f30)))⟩, by dsimp only; omega⟩
end
end Go.Proofs.YtfkmpbpkahcogaaGreatDoor
