/- The reference: names of formulas, formulas that are right, equal formulas. Conditions: none. -/
import Derived.Test.YtfkmpbpkahcogaaGreatDoorDRTZ
import Derived.Test.YtfkmpbpkahcogaaGreatDoorDRTY
import Derived.Test.YtfkmpbpkahcogaaGreatDoorRZ3
import Derived.Test.YtfkmpbpkahcogaaGreatDoorDLX
namespace Dp
open Go Pw
theorem Fm.kidInd {P : Fm -> Prop} (h : ∀ e, (∀ k ∈ e.kids, P k) -> P e) : ∀ e, P e
 | .num _ _ => h _ fun k hk => by cases hk
 | .name _ => h _ fun k hk => by cases hk
 | .op o a b => h _ fun k hk => by
  have ha := Fm.kidInd h a
  have hb := Fm.kidInd h b
  simp only [Fm.kids, List.mem_cons, List.not_mem_nil, or_false] at hk
  rcases hk with rfl | rfl
  ·exact ha
  ·exact hb
def Fm.fit : Fm -> Bool
 | .num n d => numOk n d
 | .name s => nameOk s
 | .op _ _ _ => true
theorem sound_kids (e : Fm) : e.sound = (e.fit && e.kids.all Fm.sound) := by
 cases e <;> simp [Fm.sound, Fm.fit, Fm.kids]
theorem parts_kids (e : Fm) : e.parts = 1 + (e.kids.map Fm.parts).sum := by
 cases e <;> simp [Fm.parts, Fm.kids]
 omega
theorem depth_kids (e : Fm) : e.depth = (e.kids.map Fm.depth).foldl max 0 + 1 := by
 cases e <;> simp [Fm.depth, Fm.kids]
theorem depth_parts : ∀ e : Fm, e.depth <= e.parts
 | .num _ _ => by simp [Fm.depth, Fm.parts]
 | .name _ => by simp [Fm.depth, Fm.parts]
 | .op _ a b => by
  have := depth_parts a
  have := depth_parts b
  simp only [Fm.depth, Fm.parts]
  omega
theorem kids_two (e : Fm) : e.kids.length <= 2 := by cases e <;> simp [Fm.kids]
theorem take_snoc {α β : Type} (f : α -> β) (l : List α) {i : Nat} (h : i < l.length) : (l.take (i + 1)).map f = (l.take i).map f ++ [f l[i]] := by
 rw [List.take_add_one, List.getElem?_eq_getElem h, List.map_append]
 rfl
theorem sum_take (e : Fm) (i : Nat) : ((e.kids.take i).map Fm.parts).sum + 1 <= e.parts := by
 rw [parts_kids]
 have h : ((e.kids.take i).map Fm.parts).sum <= (e.kids.map Fm.parts).sum := by
  conv => rhs; rw [← List.take_append_drop i e.kids]
  rw [List.map_append, List.sum_append]
  omega
 omega
end Dp
namespace Go.Proofs.YtfkmpbpkahcogaaGreatDoor
open Go Pw Dp
section
variable {w0 w w' : World} {s s' : Sl} {l : List B} {x : T43} {t : Td}
theorem rletter_spec {c : UInt8} {K : Bool -> World -> Prop} (hK : K (letterB c) w) : z0s_sh (c.toNat : Int) K w := by
 refine ⟨?_⟩
 unfold z0s_sd
 have e2 : letterB c = ((decide (97 <= c.toNat) && decide (c.toNat <= 122)) || (decide (65 <= c.toNat) && decide (c.toNat <= 90))) := rfl
 refine cnd_prop.2 ⟨fun h1 => cnd_prop.2 ⟨fun h2 => ?_, fun h2 => cnd_prop.2 ⟨fun h3 => ?_, fun h3 => ?_⟩⟩, fun h1 => cnd_prop.2 ⟨fun h3 => ?_, fun h3 => ?_⟩⟩
 ·have : letterB c = true := by rw [e2]; simp; omega
  rwa [this] at hK
 ·have : letterB c = decide ((c.toNat : Int) <= 90) := by rw [e2, Bool.eq_iff_iff]; simp; omega
  rwa [this] at hK
 ·have : letterB c = false := by rw [e2]; simp; omega
  rwa [this] at hK
 ·have : letterB c = decide ((c.toNat : Int) <= 90) := by rw [e2, Bool.eq_iff_iff]; simp; omega
  rwa [this] at hK
 ·have : letterB c = false := by rw [e2]; simp; omega
  rwa [this] at hK
theorem rdigit_spec {c : UInt8} {K : Bool -> World -> Prop} (hK : K (digitB c) w) : z13_sh (c.toNat : Int) K w := by
 refine ⟨?_⟩
 unfold z13_sd
 refine cnd_prop.2 ⟨fun h1 => ?_, fun h1 => ?_⟩
 ·have : digitB c = decide ((c.toNat : Int) <= 57) := by unfold digitB; rw [Bool.eq_iff_iff]; simp; omega
  rwa [this] at hK
 ·have : digitB c = false := by unfold digitB; simp; omega
  rwa [this] at hK
theorem rfollows_spec {c : UInt8} {K : Bool -> World -> Prop} (hK : K (inNameB c) w) : z0g_sh (c.toNat : Int) K w := by
 refine ⟨?_⟩
 unfold z0g_sd
 refine rletter_spec (rdigit_spec (cnd_iff.2 ⟨fun h => ?_, fun h => cnd_iff.2 ⟨fun h' => ?_, fun h' => ?_⟩⟩))
 ·have : inNameB c = true := by unfold inNameB; rw [h]; rfl
  rwa [this] at hK
 ·have : inNameB c = true := by unfold inNameB; rw [h, h']; rfl
  rwa [this] at hK
 ·have : inNameB c = ((c.toNat : Int) == 95) := by unfold inNameB; rw [h, h', Bool.eq_iff_iff]; simp; omega
  rwa [this] at hK
theorem rIsName_spec {l : B} {K : Bool -> World -> Prop} (hl : l.length < 2 ^ 62) (hK : K (isNameB l) w) : z0r_sh (ofL l) K w := by
 refine ⟨?_⟩
 unfold z0r_sd
 rw [ofL_sz]
 refine cnd_prop.2 ⟨fun h => ?_, fun h1 => cnd_prop.2 ⟨fun h => ?_, fun h30 => ?_⟩⟩
 ·have : l = [] := List.eq_nil_of_length_eq_zero (by omega)
  subst this
  exact hK
 ·have : isNameB l = false := by
   cases l with
   | nil => rfl
   | cons c r =>
    show (decide ((c :: r).length <= 30) && _) = false
    rw [decide_eq_false (by omega), Bool.false_and]
  rw [this] at hK
  exact hK
 obtain ⟨c0, r0, rfl⟩ : ∃ c r, l = c :: r := by
  cases l with
  | nil => simp at h1
  | cons c r => exact ⟨c, r, rfl⟩
 have en : isNameB (c0 :: r0) = (letterB c0 && (c0 :: r0).all inNameB) := by
  show (decide ((c0 :: r0).length <= 30) && _) = _
  rw [decide_eq_true (by omega), Bool.true_and]
 generalize hl0 : c0 :: r0 = l at *
 refine ⟨⟨fun i u => ∃ i' : Nat, i = i' /\ i' <= l.length /\ u = w /\ (l.take i').all inNameB = true /\ (0 < i' -> letterB c0 = true), fun i _ => l.length - i.toNat, ⟨0, rfl, by omega, rfl, by simp, fun h => by omega⟩, ?_⟩⟩
 rintro i u ⟨i, rfl, hi, rfl, hb, hc⟩
 unfold z0r_b0
 rw [ofL_sz]
 refine cnd_prop.2 ⟨fun hlt => ⟨⟨by omega, by omega⟩, ?_⟩, fun hge => ?_⟩
 ·have hil : i < l.length := by omega
  have e : ((ofL l).data.toList.getD (i : Int).toNat 0) = l[i] := by
   show (bl (ofL l)).getD i 0 = _
   rw [bl_ofL, List.getD_eq_getElem?_getD, List.getElem?_eq_getElem hil]
   rfl
  rw [e]
  have no : inNameB l[i] = false -> isNameB l = false := fun h => by
   rw [en, List.all_eq_false.2 ⟨_, List.getElem_mem hil, by simp [h]⟩, Bool.and_false]
  have nx : inNameB l[i] = true -> (0 < i + 1 -> letterB c0 = true) -> inR .i64 ((i : Int) + 1) /\ (((True /\ True)) /\ ∃ i' : Nat, (i : Int) + 1 = i' /\ i' <= l.length /\ u = u /\ (l.take i').all inNameB = true /\ (0 < i' -> letterB c0 = true)) := fun h hc => by
   refine ⟨inR64 (by omega) (by omega), ⟨trivial, trivial⟩, i + 1, by omega, by omega, rfl, ?_, hc⟩
   rw [List.take_add_one, List.getElem?_eq_getElem hil, List.all_append, hb]
   simp [h]
  refine rfollows_spec ⟨⟨by omega, by omega⟩, rletter_spec (cnd_iff.2 ⟨fun h => ?_, fun h => cnd_beq.2 ⟨fun h0 => cnd_iff.2 ⟨fun h' => ?_, fun h' => ?_⟩, fun h0 => ?_⟩⟩)⟩
  ·have h : inNameB l[i] = false := by simpa using h
   rw [no h] at hK
   exact hK
  ·have h' : letterB l[i] = false := by simpa using h'
   have h0 : i = 0 := by omega
   subst h0
   have : letterB c0 = false := by
    subst hl0
    exact h'
   rw [en, this, Bool.false_and] at hK
   exact hK
  ·have h : inNameB l[i] = true := by simpa using h
   have h' : letterB l[i] = true := by simpa using h'
   have h0 : i = 0 := by omega
   subst h0
   obtain ⟨n1, _, n2⟩ := nx h fun _ => by subst hl0; exact h'
   exact ⟨n1, ⟨⟨rfl, trivial⟩, n2⟩, by dsimp only; omega⟩
  ·have h : inNameB l[i] = true := by simpa using h
   obtain ⟨n1, _, n2⟩ := nx h fun _ => hc (by omega)
   exact ⟨n1, ⟨⟨rfl, trivial⟩, n2⟩, by dsimp only; omega⟩
 ·have : i = l.length := by omega
  subst this
  rw [List.take_length] at hb
  have h0 : 0 < l.length := by subst hl0; simp
  rw [en, hb, hc h0] at hK
  exact hK
theorem fits_spec {e : Fm} {c : XC} {K : Bool -> World -> Prop} (hx : XP w e c) (hK : ∀ w', Fr F0 w w' -> K e.fit w') : z1e_sh c.op c.n c.d c.nm c.a K w := by
 refine ⟨?_⟩
 unfold z1e_sd
 intro w1
 have m : Mem w w1 [(w.heap.size, _)] := Mem.nil.allocL (cs := encX c)
 clear_value w1
 have hbox := m.row 0 rfl
 cases e with
 | num n d =>
  obtain ⟨rfl, hn64, hd64⟩ := hx
  refine ⟨_, hbox.at rfl, ?_⟩
  have ee : decide (ofL wNum = str [110, 117, 109]) = true := by decide
  rw [ee]
  refine ⟨n, hbox.at rfl, d, hbox.at rfl, rRight_spec hn64 hd64 fun w3 hf3 => ?_⟩
  have hbox3 := hf3.row hbox fun h => h
  have fin : ∀ b, numOk n d = b -> K b w3 := fun b hb => by subst hb; exact hK w3 (m.1.t hf3)
  refine cnd_prop.2 ⟨fun h1 => ⟨n, hbox3.at rfl, cnd_prop.2 ⟨fun h2 => ?_, fun h2 => fin _ (Bool.eq_false_iff.2 fun h => h2 (num_sound.1 h).2.1)⟩⟩, fun h1 => fin _ (Bool.eq_false_iff.2 fun h => h1 (num_sound.1 h).1)⟩
  have hd0 : 0 < d := h1.1
  refine ⟨d, hbox3.at rfl, by omega, cnd_beq.2 ⟨fun h3 => ?_, fun h3 => fin _ (Bool.eq_false_iff.2 fun h => h3 (num_sound.1 h).2.2.1)⟩⟩
  have hdl := den_le hd0 h3
  refine ⟨n, hbox3.at rfl, d, hbox3.at rfl, inR64 (by omega) (by omega), cnd_prop.2 ⟨fun h4 => ?_, fun h4 => fin _ (Bool.eq_false_iff.2 fun h => h4 (num_sound.1 h).2.2.2)⟩⟩
  refine ⟨_, hbox3.at rfl, ?_⟩
  have ee : decide (ofL [] = str []) = true := by decide
  rw [ee]
  exact ⟨⟨none, 0, 0⟩, hbox3.at rfl, fin _ (num_sound.2 ⟨h1, h2, h3, h4⟩)⟩
 | name s =>
  obtain ⟨rfl, hs20⟩ := hx
  have fin : ∀ b, nameOk s = b -> K b w1 := fun b hb => by subst hb; exact hK w1 m.1
  have en : nameOk s = (isNameB s && (!decide (s = wMin) && !decide (s = wMax))) := rfl
  refine ⟨_, hbox.at rfl, ?_⟩
  have ee : decide (ofL wName = str [110, 117, 109]) = false := by decide
  have ee' : decide (ofL wName = str [110, 97, 109, 101]) = true := by decide
  rw [ee, ee']
  refine ⟨_, hbox.at rfl, rIsName_spec (by omega) (cnd_iff.2 ⟨fun h1 => ⟨_, hbox.at rfl, ?_⟩, fun h1 => fin _ (by rw [en, h1]; rfl)⟩)⟩
  rw [show decide (ofL s = str [109, 105, 110]) = decide (s = wMin) from ofL_dec s wMin]
  refine cnd_iff.2 ⟨fun h2 => ⟨_, hbox.at rfl, ?_⟩, fun h2 => fin _ (by rw [en, h2]; simp)⟩
  rw [show decide (ofL s = str [109, 97, 120]) = decide (s = wMax) from ofL_dec s wMax]
  refine cnd_iff.2 ⟨fun h3 => ⟨0, hbox.at rfl, 0, hbox.at rfl, ?_⟩, fun h3 => fin _ (by rw [en, h3]; simp)⟩
  show cnd true _ _
  rw [cnd_true]
  exact ⟨⟨none, 0, 0⟩, hbox.at rfl, fin _ (by rw [en, h1, h2, h3]; rfl)⟩
 | op o a b =>
  obtain ⟨ca, cb, ⟨h1, h2, h3, h4⟩, hv, hxa, hxb⟩ := hx
  obtain ⟨op, n, d, nm, sa⟩ := c
  simp only at h1 h2 h3 h4 hv
  subst h1 h2 h3 h4
  have hl2 : sa.l = 2 := hv.len
  refine ⟨_, hbox.at rfl, ?_⟩
  rw [opnum o, opname o, op43 o, op45 o, op42 o, op47 o, opmin o, opmax o]
  refine op_chain ⟨?_⟩ o
  unfold z1e_k0d
  simp only [add_mk, Nat.zero_add]
  refine ⟨0, hbox.at rfl, 0, hbox.at rfl, ?_⟩
  show cnd true _ _
  rw [cnd_true]
  refine ⟨_, hbox.at rfl, ?_⟩
  have ee : decide (ofL [] = str []) = true := by decide
  rw [ee, cnd_true]
  refine ⟨sa, hbox.at rfl, ?_⟩
  rw [hl2]
  exact hK w1 m.1
theorem sound_spec (e : Fm) : ∀ {c : XC} {w : World} {K : Bool -> World -> Prop}, XP w e c -> (∀ w', Fr F0 w w' -> K e.sound w') -> z14_sh c.op c.n c.d c.nm c.a K w := by
 refine Fm.kidInd (P := fun e => ∀ {c : XC} {w : World} {K : Bool -> World -> Prop}, XP w e c -> (∀ w', Fr F0 w w' -> K e.sound w') -> z14_sh c.op c.n c.d c.nm c.a K w) (fun e ih c w K hx hK => ?_) e
 obtain ⟨cs, hcv, hcl, hck⟩ := hx.kids
 have hea : c.a.l = e.kids.length := by rw [hcv.len, hcl]
 have h2 := kids_two e
 refine z14_mk _ _ _ _ _ _ _ ?_
 unfold z14_sd
 intro w1
 have m : Mem w w1 [(w.heap.size, _)] := Mem.nil.allocL (cs := encX c)
 clear_value w1
 have hbox := m.row 0 rfl
 refine ⟨_, hbox.at rfl, _, hbox.at rfl, _, hbox.at rfl, _, hbox.at rfl, c.a, hbox.at rfl, fits_spec (hx.fr m.1) fun w2 f2 => ?_⟩
 refine ⟨⟨fun ok i u => ∃ i' : Nat, i = i' /\ i' <= e.kids.length /\ Fr F0 w1 u /\ ok = (e.fit && (e.kids.take i').all Fm.sound), fun _ i _ => e.kids.length - i.toNat, ⟨0, rfl, by omega, f2, by simp⟩, ?_⟩⟩
 rintro ok i u ⟨i, rfl, hi, hf, rfl⟩
 unfold z14_b0
 have hb := hf.row hbox fun h => h
 refine ⟨c.a, hb.at (i := 4) rfl, ?_⟩
 rw [hea]
 refine cnd_prop.2 ⟨fun hlt => cnd_iff.2 ⟨fun ho => ⟨c.a, hb.at (i := 4) rfl, ?_⟩, fun ho => ?_⟩, fun hge => ?_⟩
 ·have hil : i < e.kids.length := by omega
  refine ldX (hcv.fr (m.1.t hf)) i rfl (by omega) ?_
  refine ih _ (List.getElem_mem hil) ((hck i (by omega) hil).fr (m.1.t hf)) fun w3 f3 => ⟨inR64 (by omega) (by omega), ⟨⟨rfl, trivial⟩, i + 1, by omega, by omega, hf.t f3, ?_⟩, by dsimp only; omega⟩
  rw [List.take_add_one, List.getElem?_eq_getElem hil, List.all_append, ← Bool.and_assoc, ho]
  simp
 ·have : e.sound = false := by
   rw [sound_kids]
   rw [Bool.and_eq_false_iff] at ho ⊢
   refine ho.imp id fun h => ?_
   rw [List.all_eq_false] at h ⊢
   obtain ⟨k, hk, h⟩ := h
   exact ⟨k, List.mem_of_mem_take hk, h⟩
  rw [ho, ← this]
  exact hK u (m.1.t hf)
 ·have : i = e.kids.length := by omega
  subst this
  rw [List.take_length, ← sound_kids]
  exact hK u (m.1.t hf)
theorem Parts_spec (e : Fm) : ∀ {c : XC} {w : World} {K : Int -> World -> Prop}, XP w e c -> e.parts <= 2 ^ 38 -> (∀ w', Fr F0 w w' -> K (e.parts : Int) w') -> z12_sh c.op c.n c.d c.nm c.a K w := by
 refine Fm.kidInd (P := fun e => ∀ {c : XC} {w : World} {K : Int -> World -> Prop}, XP w e c -> e.parts <= 2 ^ 38 -> (∀ w', Fr F0 w w' -> K (e.parts : Int) w') -> z12_sh c.op c.n c.d c.nm c.a K w) (fun e ih c w K hx hp hK => ?_) e
 obtain ⟨cs, hcv, hcl, hck⟩ := hx.kids
 have hea : c.a.l = e.kids.length := by rw [hcv.len, hcl]
 have h2 := kids_two e
 refine z12_mk _ _ _ _ _ _ _ ?_
 unfold z12_sd
 intro w1
 have m : Mem w w1 [(w.heap.size, _)] := Mem.nil.allocL (cs := encX c)
 clear_value w1
 have hbox := m.row 0 rfl
 refine ⟨⟨fun n i u => ∃ i' : Nat, i = i' /\ i' <= e.kids.length /\ Fr F0 w1 u /\ n = ((1 + ((e.kids.take i').map Fm.parts).sum : Nat) : Int), fun _ i _ => e.kids.length - i.toNat, ⟨0, rfl, by omega, Fr.refl, by simp⟩, ?_⟩⟩
 rintro n i u ⟨i, rfl, hi, hf, rfl⟩
 unfold z12_b0
 have hb := hf.row hbox fun h => h
 refine ⟨c.a, hb.at (i := 4) rfl, ?_⟩
 rw [hea]
 refine cnd_prop.2 ⟨fun hlt => ⟨c.a, hb.at (i := 4) rfl, ?_⟩, fun hge => ?_⟩
 ·have hil : i < e.kids.length := by omega
  have hkp := kid_parts e _ (List.getElem_mem hil)
  have hs := sum_take e (i + 1)
  rw [take_snoc Fm.parts _ hil, List.sum_append] at hs
  simp only [List.sum_cons, List.sum_nil] at hs
  refine ldX (hcv.fr (m.1.t hf)) i rfl (by omega) ?_
  refine ih _ (List.getElem_mem hil) ((hck i (by omega) hil).fr (m.1.t hf)) (by omega) fun w3 f3 => ⟨inR64 (by omega) (by omega), inR64 (by omega) (by omega), ⟨⟨rfl, trivial⟩, i + 1, by omega, by omega, hf.t f3, ?_⟩, by dsimp only; omega⟩
  rw [take_snoc Fm.parts _ hil, List.sum_append]
  simp only [List.sum_cons, List.sum_nil]
  omega
 ·have : i = e.kids.length := by omega
  subst this
  rw [List.take_length, ← parts_kids]
  exact hK u (m.1.t hf)
theorem fold_snoc {l : List Nat} {n : Nat} : (l ++ [n]).foldl max 0 = max (l.foldl max 0) n := by rw [List.foldl_append]; rfl
theorem Depth_spec (e : Fm) : ∀ {c : XC} {w : World} {K : Int -> World -> Prop}, XP w e c -> e.parts <= 2 ^ 38 -> (∀ w', Fr F0 w w' -> K (e.depth : Int) w') -> z11_sh c.op c.n c.d c.nm c.a K w := by
 refine Fm.kidInd (P := fun e => ∀ {c : XC} {w : World} {K : Int -> World -> Prop}, XP w e c -> e.parts <= 2 ^ 38 -> (∀ w', Fr F0 w w' -> K (e.depth : Int) w') -> z11_sh c.op c.n c.d c.nm c.a K w) (fun e ih c w K hx hp hK => ?_) e
 obtain ⟨cs, hcv, hcl, hck⟩ := hx.kids
 have hea : c.a.l = e.kids.length := by rw [hcv.len, hcl]
 have h2 := kids_two e
 refine z11_mk _ _ _ _ _ _ _ ?_
 unfold z11_sd
 intro w1
 have m : Mem w w1 [(w.heap.size, _)] := Mem.nil.allocL (cs := encX c)
 clear_value w1
 have hbox := m.row 0 rfl
 refine ⟨⟨fun n i u => ∃ i' : Nat, i = i' /\ i' <= e.kids.length /\ Fr F0 w1 u /\ n = ((((e.kids.take i').map Fm.depth).foldl max 0 : Nat) : Int), fun _ i _ => e.kids.length - i.toNat, ⟨0, rfl, by omega, Fr.refl, by simp⟩, ?_⟩⟩
 rintro n i u ⟨i, rfl, hi, hf, rfl⟩
 unfold z11_b0
 have hb := hf.row hbox fun h => h
 refine ⟨c.a, hb.at (i := 4) rfl, ?_⟩
 rw [hea]
 refine cnd_prop.2 ⟨fun hlt => ⟨c.a, hb.at (i := 4) rfl, ?_⟩, fun hge => ?_⟩
 ·have hil : i < e.kids.length := by omega
  have hkp := kid_parts e _ (List.getElem_mem hil)
  refine ldX (hcv.fr (m.1.t hf)) i rfl (by omega) ?_
  refine ih _ (List.getElem_mem hil) ((hck i (by omega) hil).fr (m.1.t hf)) (by omega) fun w3 f3 => ⟨inR64 (by omega) (by omega), ⟨⟨rfl, trivial⟩, i + 1, by omega, by omega, hf.t f3, ?_⟩, by dsimp only; omega⟩
  rw [take_snoc Fm.depth _ hil, fold_snoc]
  omega
 ·have : i = e.kids.length := by omega
  subst this
  have hd := depth_parts e
  have he := depth_kids e
  rw [List.take_length]
  have e1 : (((e.kids.map Fm.depth).foldl max 0 : Nat) : Int) + 1 = (e.depth : Int) := by omega
  rw [e1]
  exact ⟨inR64 (by omega) (by omega), hK u (m.1.t hf)⟩
theorem RightF_spec {e : Fm} {c : XC} {K : Bool -> World -> Prop} (hx : XP w e c) (hp : e.parts <= 2 ^ 38) (hK : ∀ w', Fr F0 w w' -> K e.right w') : z01_sh c.op c.n c.d c.nm c.a K w := by
 refine ⟨?_⟩
 unfold z01_sd
 intro w1
 have m : Mem w w1 [(w.heap.size, _)] := Mem.nil.allocL (cs := encX c)
 clear_value w1
 have hbox := m.row 0 rfl
 have er : e.right = (e.sound && (decide (e.parts <= 60) && decide (e.depth <= 12))) := rfl
 refine ⟨_, hbox.at rfl, _, hbox.at rfl, _, hbox.at rfl, _, hbox.at rfl, c.a, hbox.at rfl, sound_spec e (hx.fr m.1) fun w2 f2 => ?_⟩
 have F2 := m.1.t f2
 have hb2 := f2.row hbox fun h => h
 refine cnd_iff.2 ⟨fun h1 => ?_, fun h1 => ?_⟩
 ·refine ⟨_, hb2.at rfl, _, hb2.at rfl, _, hb2.at rfl, _, hb2.at rfl, c.a, hb2.at rfl, Parts_spec e (hx.fr F2) hp fun w3 f3 => ?_⟩
  have F3 := F2.t f3
  have hb3 := f3.row hb2 fun h => h
  refine cnd_prop.2 ⟨fun h2 => ?_, fun h2 => ?_⟩
  ·refine ⟨_, hb3.at rfl, _, hb3.at rfl, _, hb3.at rfl, _, hb3.at rfl, c.a, hb3.at rfl, Depth_spec e (hx.fr F3) hp fun w4 f4 => ?_⟩
   have : decide ((e.depth : Int) <= 12) = e.right := by
    rw [er, h1, decide_eq_true (show e.parts <= 60 by omega), Bool.true_and, Bool.true_and, decide_eq_decide]
    omega
   rw [this]
   exact hK w4 (F3.t f4)
  ·have : e.right = false := by rw [er, decide_eq_false (show ¬ e.parts <= 60 by omega)]; simp
   rw [← this]
   exact hK w3 F3
 ·have : e.right = false := by rw [er, h1]; rfl
  rw [← this]
  exact hK w2 F2
theorem names_spec (e : Fm) : ∀ {c : XC} {w : World} {s : Sl} {m : List B} {K : Sl -> World -> Prop}, XP w e c -> Vw 1 encB w s m -> m.length + e.parts <= 2 ^ 40 -> (∀ w' r, Fr F0 w w' -> Vw 1 encB w' r (nmA m e) -> (∀ b, inB r b -> inB s b \/ w.heap.size <= b) -> K r w') -> z16_sh c.op c.n c.d c.nm c.a s K w := by
 refine Fm.kidInd (P := fun e => ∀ {c : XC} {w : World} {s : Sl} {m : List B} {K : Sl -> World -> Prop}, XP w e c -> Vw 1 encB w s m -> m.length + e.parts <= 2 ^ 40 -> (∀ w' r, Fr F0 w w' -> Vw 1 encB w' r (nmA m e) -> (∀ b, inB r b -> inB s b \/ w.heap.size <= b) -> K r w') -> z16_sh c.op c.n c.d c.nm c.a s K w) (fun e ih c w s l K hx hv hp hK => ?_) e
 obtain ⟨cs, hcv, hcl, hck⟩ := hx.kids
 have hea : c.a.l = e.kids.length := by rw [hcv.len, hcl]
 have h2 := kids_two e
 refine z16_mk _ _ _ _ _ _ _ _ _ _ ?_
 unfold z16_sd
 intro w1
 have m : Mem w w1 [(w.heap.size, _)] := Mem.nil.allocL (cs := encX c)
 clear_value w1
 have hbox := m.row 0 rfl
 have hv := hv.fr m.1
 -- the arguments, one behind the other
 have kids : ∀ {u : World}, Fr F0 w1 u -> nm1 l e = l -> z16_k0 s ⟨w.heap.size, 0, none⟩ K u := fun {u} hf hn => by
  refine ⟨⟨⟨fun r i u => ∃ i' : Nat, i = i' /\ i' <= e.kids.length /\ Fr F0 w1 u /\ Vw 1 encB u r ((e.kids.take i').foldl nmA l) /\ ∀ b, inB r b -> inB s b \/ w.heap.size <= b, fun _ i _ => e.kids.length - i.toNat, ⟨0, rfl, by omega, hf, by simpa using hv.fr hf, fun _ h => .inl h⟩, ?_⟩⟩⟩
  rintro r i u ⟨i, rfl, hi, hf, hr, hin⟩
  unfold z16_b1
  have hb := hf.row hbox fun h => h
  refine ⟨c.a, hb.at (i := 4) rfl, ?_⟩
  rw [hea]
  refine cnd_prop.2 ⟨fun hlt => ⟨c.a, hb.at (i := 4) rfl, ?_⟩, fun hge => ?_⟩
  ·have hil : i < e.kids.length := by omega
   have hacc := kid_acc e l i hil
   refine ldX (hcv.fr (m.1.t hf)) i rfl (by omega) ?_
   refine ih _ (List.getElem_mem hil) ((hck i (by omega) hil).fr (m.1.t hf)) hr (by omega) fun w3 r3 f3 v3 n3 => ⟨inR64 (by omega) (by omega), ⟨⟨rfl, trivial⟩, i + 1, by omega, by omega, hf.t f3, ?_, fun b hb => ?_⟩, by dsimp only; omega⟩
   ·rw [List.take_add_one, List.getElem?_eq_getElem hil, List.foldl_append]
    exact v3
   ·rcases n3 b hb with h | h
    ·exact hin b h
    ·exact .inr (Nat.le_trans (Nat.le_trans m.1.1 hf.1) h)
  ·have : i = e.kids.length := by omega
   subst this
   rw [List.take_length] at hr
   refine hK u r (m.1.t hf) ?_ hin
   have e1 : nm1 (e.kids.foldl nmA l) e = e.kids.foldl nmA l := by
    cases e with
    | num _ _ => rfl
    | name _ => exact hn
    | op _ _ _ => rfl
   rw [nmA_kids, e1]
   exact hr
 refine ⟨_, hbox.at rfl, ?_⟩
 rcases name_or e with ⟨nn, rfl⟩ | ⟨hn1, hn2⟩
 ·obtain ⟨hxe, h20⟩ := hx
  subst hxe
  have ee : decide (ofL wName = str [110, 97, 109, 101]) = true := by decide
  rw [ee, cnd_true]
  have hpp : (Fm.name nn).parts = 1 := rfl
  refine ⟨_, hbox.at rfl, rhas3_spec hv (by omega) (cnd_iff.2 ⟨fun h => ?_, fun h => ?_⟩)⟩
  ·have hnin : nn ∉ l := by simpa using h
   have en : nmA l (.name nn) = l ++ [nn] := addB_new hnin
   rw [en] at hK
   intro w6
   have f6 : Fr F0 w1 w6 := Fr.drew
   clear_value w6
   have hb6 := f6.row hbox fun h => h
   refine ⟨fun u => Fr F0 w6 u, Fr.refl, ofL nn, fun u hu => (hu.row hb6 fun h => h).at rfl, ?_, ?_⟩
   ·intro w9
    have r9 : Row w9 w6.heap.size [] := Row.new (cs := [])
    have f9 : Fr F0 w6 w9 := Fr.alloc
    clear_value w9
    refine ⟨f9, fun u u' h hs => hs.t h.f0, ⟨fun u => ExtL.alloc, trivial⟩, fun w10 e10 => ?_⟩
    have f10 := e10.f0
    refine copy0 encB_length (f10.row r9 fun h => h) (hv.fr (f6.t (f9.t f10))) encB_ok rfl (by omega) (by omega) fun s11 w12 o11 f12 i11 => ⟨f12.ext, fun w13 e13 w14 e14 _ g14 => ?_⟩
    have rx0 : Vw 1 encB (w14.alloc (Obj.cells #[Value.string (ofL nn)] 9)) ⟨some ⟨w14.heap.size, 0, none⟩, 1, 1⟩ [nn] := Vw.new rfl rfl
    have rx := rx0.fr g14.f0
    have F13 : Fr F0 w6 w13 := f9.t (f10.t (f12.t e13.f0))
    have lb : ∀ b, inB s11 b -> w6.heap.size <= b := fun b hb => by
     have := f9.1
     have := f10.1
     rcases i11 b hb with h | h
     ·omega
     ·omega
    refine (o11.fr e13.f0).app rx encB_ok rfl (by simp; omega) (by simp; omega) fun s15 w16 o15 f16 i15 => ?_
    have F16 : Fr F0 w6 w16 := F13.nb f16 lb
    refine ⟨F16, hK w16 s15 (m.1.t (f6.t F16)) o15.vw fun b hb => .inr ?_⟩
    have := m.1.1; have := f6.1; have := F13.1
    rcases i15 b hb with h | h
    ·have := lb b h; omega
    ·omega
   ·intro w17
    have r17 : Row w17 w6.heap.size ([nn].flatMap encB) := Row.new
    have f17 : Fr F0 w6 w17 := Fr.alloc
    clear_value w17
    refine ⟨f17, ?_⟩
    intro w18
    have r18 : Row w18 w17.heap.size [] := Row.new (cs := [])
    have f18 : Fr F0 w17 w18 := Fr.alloc
    clear_value w18
    have F18 := f17.t f18
    refine ⟨F18, copy0 encB_length r18 (hv.fr (f6.t F18)) encB_ok rfl (by omega) (by omega) fun s19 w20 o19 f20 i19 => ⟨F18.t f20, ?_⟩⟩
    have rx : Vw 1 encB w20 ⟨some ⟨w6.heap.size, 0, none⟩, 1, 1⟩ [nn] := (Row.ow encB_length (l := [nn]) ((f18.t f20).row r17 fun h => h)).vw
    have lb : ∀ b, inB s19 b -> w6.heap.size <= b := fun b hb => by
     have := f17.1
     have := f18.1
     rcases i19 b hb with h | h
     ·omega
     ·omega
    refine o19.app rx encB_ok rfl (by simp; omega) (by simp; omega) fun s21 w22 o21 f22 i21 => ?_
    have F22 : Fr F0 w6 w22 := (F18.t f20).nb f22 lb
    refine ⟨F22, hK w22 s21 (m.1.t (f6.t F22)) o21.vw fun b hb => .inr ?_⟩
    have := m.1.1; have := f6.1; have := (F18.t f20).1
    rcases i21 b hb with h | h
    ·have := lb b h; omega
    ·omega
  ·have hin : nn ∈ l := by simpa using h
   exact kids Fr.refl (addB_in hin)
 ·rw [hn2 hx, cnd_false]
  exact kids Fr.refl (hn1 l)
theorem rNames_spec {e : Fm} {c : XC} {K : Sl -> World -> Prop} (hx : XP w e c) (hp : e.parts <= 2 ^ 38) (hK : ∀ w' r l, Fr F0 w w' -> Vw 1 encB w' r l -> (∀ b, inB r b -> w.heap.size <= b) -> (∀ x, x ∈ l ↔ x ∈ e.namesR) -> l.length <= e.parts -> K r w') : z15_sh c.op c.n c.d c.nm c.a K w := by
 refine ⟨?_⟩
 unfold z15_sd
 intro w1
 have m : Mem w w1 [(w.heap.size, _)] := Mem.nil.allocL (cs := encX c)
 clear_value w1
 have hbox := m.row 0 rfl
 refine ⟨_, hbox.at rfl, _, hbox.at rfl, _, hbox.at rfl, _, hbox.at rfl, c.a, hbox.at rfl, RightF_spec (hx.fr m.1) hp fun w2 f2 => ?_⟩
 have F2 := m.1.t f2
 have hb2 := f2.row hbox fun h => h
 refine cnd_iff.2 ⟨fun h => ?_, fun h => ?_⟩
 ·have hr : e.right = false := by simpa using h
  refine hK w2 _ [] F2 Vw.nil (fun b ⟨a, ha, _⟩ => by cases ha) (fun x => ?_) (by simp)
  unfold Fm.namesR
  rw [hr]
  simp
 ·have hr : e.right = true := by simpa using h
  refine ⟨_, hb2.at rfl, _, hb2.at rfl, _, hb2.at rfl, _, hb2.at rfl, c.a, hb2.at rfl, names_spec e (hx.fr F2) Vw.nil (by simp; omega) fun w3 r f3 v3 n3 => ?_⟩
  refine hK w3 r _ (F2.t f3) v3 (fun b hb => (n3 b hb).elim (fun ⟨a, ha, _⟩ => by cases ha) fun h => Nat.le_trans F2.1 h) (fun x => ?_) (by simpa using nmA_len e [])
  rw [mem_nmA]
  unfold Fm.namesR
  rw [hr]
  simp
theorem rSame_spec (a : Fm) : ∀ {b : Fm} {c d : XC} {w : World} {K : Bool -> World -> Prop}, XP w a c -> XP w b d -> (∀ w', Fr F0 w w' -> K (decide (a = b)) w') -> z1g_sh c.op c.n c.d c.nm c.a d.op d.n d.d d.nm d.a K w := by
 refine Fm.kidInd (P := fun a => ∀ {b : Fm} {c d : XC} {w : World} {K : Bool -> World -> Prop}, XP w a c -> XP w b d -> (∀ w', Fr F0 w w' -> K (decide (a = b)) w') -> z1g_sh c.op c.n c.d c.nm c.a d.op d.n d.d d.nm d.a K w) (fun a ih b c d w K hx hy hK => ?_) a
 obtain ⟨cs, hcv, hcl, hck⟩ := hx.kids
 obtain ⟨ds, hdv, hdl, hdk⟩ := hy.kids
 have hea : c.a.l = a.kids.length := by rw [hcv.len, hcl]
 have heb : d.a.l = b.kids.length := by rw [hdv.len, hdl]
 have h2 := kids_two a
 obtain ⟨c1, c2, c3, c4⟩ := hx.head
 obtain ⟨d1, d2, d3, d4⟩ := hy.head
 have hab := fm_eq a b
 refine z1g_mk _ _ _ _ _ _ _ _ _ _ _ _ _ _ ?_
 unfold z1g_sd
 intro w1
 have m : Mem w w1 [(w.heap.size, _)] := Mem.nil.allocL (cs := encX c)
 clear_value w1
 intro w2
 have m : Mem w w2 [(w1.heap.size, _), (w.heap.size, _)] := m.allocL (cs := encX d)
 clear_value w2
 have hc := m.row 1 rfl
 have hd := m.row 0 rfl
 have no : ∀ {u : World}, Fr F0 w u -> ¬ a = b -> K false u := fun hf hn => by
  have := hK _ hf
  rw [decide_eq_false hn] at this
  exact this
 refine ⟨_, hc.at rfl, _, hd.at rfl, ?_⟩
 rw [c1, d1, ofL_dec]
 refine cnd_iff.2 ⟨fun h => no m.1 fun e => ?_, fun h1 => ?_⟩
 ·have := (hab.1 e).1
  simp [this] at h
 have h1 : hop a = hop b := by simpa using h1
 refine ⟨_, hc.at rfl, _, hc.at rfl, _, hd.at rfl, _, hd.at rfl, ?_⟩
 rw [c2, c3, d2, d3]
 refine cnd_iff.2 ⟨fun h => no m.1 fun e => ?_, fun h2' => ?_⟩
 ·obtain ⟨_, e1, e2, _⟩ := hab.1 e
  simp [e1, e2] at h
 have h2' : hnn a = hnn b /\ hdd a = hdd b := by simpa using h2'
 refine ⟨_, hc.at rfl, _, hd.at rfl, ?_⟩
 rw [c4, d4, ofL_dec]
 refine cnd_iff.2 ⟨fun h => no m.1 fun e => ?_, fun h3 => ?_⟩
 ·have := (hab.1 e).2.2.2.1
  simp [this] at h
 have h3 : hnm a = hnm b := by simpa using h3
 refine ⟨c.a, hc.at rfl, d.a, hd.at rfl, ?_⟩
 rw [hea, heb]
 refine cnd_bne.2 ⟨fun h => no m.1 fun e => ?_, fun h4 => ?_⟩
 ·have := (hab.1 e).2.2.2.2
  rw [this] at h
  exact h rfl
 have h4 : a.kids.length = b.kids.length := by omega
 refine ⟨⟨fun i u => ∃ i' : Nat, i = i' /\ i' <= a.kids.length /\ Fr F0 w2 u /\ a.kids.take i' = b.kids.take i', fun i _ => a.kids.length - i.toNat, ⟨0, rfl, by omega, Fr.refl, by simp⟩, ?_⟩⟩
 rintro i u ⟨i, rfl, hi, hf, he⟩
 unfold z1g_b0
 have hcu := hf.row hc fun h => h
 have hdu := hf.row hd fun h => h
 refine ⟨c.a, hcu.at (i := 4) rfl, ?_⟩
 rw [hea]
 refine cnd_prop.2 ⟨fun hlt => ?_, fun hge => ?_⟩
 ·have hil : i < a.kids.length := by omega
  have hib : i < b.kids.length := by omega
  intro w14
  have f14 : Fr F0 u w14 := Fr.drew
  clear_value w14
  have F14 := hf.t f14
  have hcu := f14.row hcu fun h => h
  have hdu := f14.row hdu fun h => h
  refine ⟨fun v => Fr F0 w14 v, Fr.refl, c.a, fun v hv => (hv.row hcu fun h => h).at rfl, Vw.goS encX_length (by decide) Fr.refl (fun v hv => hcv.fr (m.1.t (F14.t hv))) i rfl (by omega) fun _ hx' => ⟨_, hx' 0 _ rfl, _, hx' 1 _ rfl, _, hx' 2 _ rfl, _, hx' 3 _ rfl, cs[i].a, hx' 4 _ rfl, ?_⟩⟩
  refine ⟨d.a, fun v hv => (hv.row hdu fun h => h).at (i := 4) rfl, Vw.goS encX_length (by decide) Fr.refl (fun v hv => hdv.fr (m.1.t (F14.t hv))) i rfl (by omega) fun _ hy' => ⟨_, hy' 0 _ rfl, _, hy' 1 _ rfl, _, hy' 2 _ rfl, _, hy' 3 _ rfl, ds[i].a, hy' 4 _ rfl, ?_⟩⟩
  refine ih _ (List.getElem_mem hil) ((hck i (by omega) hil).fr (m.1.t F14)) ((hdk i (by omega) hib).fr (m.1.t F14)) fun w3 f3 => ⟨f3, cnd_iff.2 ⟨fun h => no (m.1.t (F14.t f3)) fun e => ?_, fun h => ?_⟩⟩
  ·have hk := (hab.1 e).2.2.2.2
   have : a.kids[i] = b.kids[i] := by simp only [hk]
   simp [this] at h
  ·have h : a.kids[i] = b.kids[i] := by simpa using h
   refine ⟨inR64 (by omega) (by omega), ⟨⟨rfl, rfl, trivial⟩, i + 1, by omega, by omega, F14.t f3, ?_⟩, by dsimp only; omega⟩
   rw [List.take_add_one, List.take_add_one, List.getElem?_eq_getElem hil, List.getElem?_eq_getElem hib, he, h]
 ·have : i = a.kids.length := by omega
  subst this
  rw [List.take_length, h4, List.take_length] at he
  have := hK u (m.1.t hf)
  rw [decide_eq_true (hab.2 ⟨h1, h2'.1, h2'.2, h3, he⟩)] at this
  exact this
end
end Go.Proofs.YtfkmpbpkahcogaaGreatDoor
namespace Pw
open Go
theorem Vw.lt {α : Type} {n : Nat} {enc : α -> List Value} {w : World} {s : Sl} {l : List α} (h : Vw n enc w s l) (hn : ∀ a, (enc a).length = n) (hn0 : 0 < n) (hl : l ≠ []) : ∀ b, inB s b -> b < w.heap.size := by
 intro b ⟨a, ha, hb⟩
 cases l with
 | nil => exact absurd rfl hl
 | cons x l =>
  obtain ⟨ad, hp, hc⟩ := h.at hn (i := 0) (a := x) rfl hn0
  rw [ha] at hp
  cases hp
  subst hb
  have hv := hc 0 _ (List.getElem?_eq_getElem (by rw [hn]; exact hn0))
  unfold World.cell? at hv
  rw [add_block, add_block] at hv
  rcases Nat.lt_or_ge a.block w.heap.size with h' | h'
  ·exact h'
  ·rw [Array.getElem?_eq_none h'] at hv
   cases hv
end Pw
namespace Go.Proofs.YtfkmpbpkahcogaaGreatDoor
open Go Pw Dp
structure NW (v u : World) (nm s : Sl) (N W : List B) : Prop where
 ow : Mk v 1 encB u s W
 nv : Vw 1 encB u nm N
 ap : N ≠ [] -> ∀ b, inB nm b -> b < u.heap.size /\ ¬ inB s b
section
variable {v w u w' : World} {nm s s' all : Sl} {N W A : List B} {x : T43} {t : Td} {tb : Nat} {c : B}
theorem NW.fr (h : NW v w nm s N W) (hf : Fr F0 w u) : NW v u nm s N W :=
 ⟨h.ow.fr hf, h.nv.fr hf, fun hn b hb => ⟨Nat.lt_of_lt_of_le (h.ap hn b hb).1 hf.1, (h.ap hn b hb).2⟩⟩
theorem NW.push {a : B} {cs : Array Value} {e e' : Nat} {K : SW} (h : NW v w nm s N W) (hc : cs = (encB a).toArray) (hm : W.length <= 2 ^ 40)
  (hK : ∀ r w', NW v w' nm r N (W ++ [a]) -> K r w') : apS 1 16 [(Value.string (str []))] e s ⟨some ⟨w.heap.size, 0, none⟩, 1, 1⟩ (w.alloc (Obj.cells cs e')) K := by
 have f : Fr F0 w (w.alloc (Obj.cells cs e')) := Fr.alloc
 have h' := h.fr f
 refine h'.ow.ow.app (m := [a]) (Vw.new rfl hc) encB_ok rfl (by simp; omega) (by simp; omega) fun r w' ho hf hi => hK r w' ?_
 have hin : ∀ b, inB r b -> inB s b \/ w.heap.size <= b := fun b hb => (hi b hb).imp id fun h => Nat.le_trans f.1 h
 refine ⟨⟨h'.ow.fr0.nb hf h'.ow.nw, ho, fun b hb => ?_⟩, ?_, fun hn b hb => ⟨Nat.lt_of_lt_of_le (h'.ap hn b hb).1 hf.1, fun hr => ?_⟩⟩
 ·rcases hin b hb with h1 | h1
  ·exact h.ow.nw b h1
  ·exact Nat.le_trans h.ow.fr0.1 h1
 ·cases N with
  | nil => exact ⟨h'.nv.len, h'.nv.cap, by have := h'.nv.len; rw [show (([] : List B).flatMap encB) = [] from rfl]; unfold rdC; rw [this]; simp; cases nm.p <;> trivial⟩
  | cons a N => exact h'.nv.frF hf fun b hb => (h'.ap (by simp) b hb).2
 ·rcases hin b hr with h1 | h1
  ·exact (h.ap hn b hb).2 h1
  ·have := (h.ap hn b hb).1
   omega
theorem rUses_l13_spec {K : Sl -> World -> Prop} (ha : Vw 1 encB w all A) (hw : Vw 1 encB w s W) (hl : A.length <= 2 ^ 40) (hl' : W.length <= 2 ^ 41) (hK : ∀ w' s', Mk w 1 encB w' s' (A.filter fun o => decide (o ∈ W)) -> K s' w') : z1l_l13 all s ⟨none, 0, 0⟩ 0 K w := by
 have el := ha.len
 refine ⟨⟨fun out i u => ∃ i' : Nat, i = i' /\ i' <= A.length /\ Mk w 1 encB u out ((A.take i').filter fun o => decide (o ∈ W)), fun _ i _ => A.length - i.toNat, ⟨0, rfl, by omega, Mk.nil Fr.refl⟩, ?_⟩⟩
 rintro out i u ⟨i, rfl, hi, hu⟩
 unfold z1l_b13
 have hlen := hu.len
 have hlen2 : out.l <= i := by rw [hlen]; exact Nat.le_trans (List.length_filter_le _ _) (by simp; omega)
 have hv := ha.fr hu.fr0
 refine cnd_prop.2 ⟨fun hlt => ?_, fun hge => ?_⟩
 ·have hil : i < A.length := by omega
  have et : A.take (i + 1) = A.take i ++ [A[i]] := by rw [List.take_add_one, List.getElem?_eq_getElem hil]; rfl
  refine ldB hv i rfl hil (rhas_spec (hw.fr hu.fr0) (by omega) (cnd_iff.2 ⟨fun h => ?_, fun h => ?_⟩))
  ·refine ldB hv i rfl hil ?_
   refine hu.push (a := A[i]) rfl rfl encB_ok rfl (by omega) (by omega) fun s6 w7 h7 _ => ⟨inR64 (by omega) (by omega), ⟨⟨rfl, rfl, trivial⟩, i + 1, by omega, by omega, ?_⟩, by dsimp only; omega⟩
   rw [et, List.filter_append, List.filter_cons, if_pos h]
   exact h7
  ·refine ⟨inR64 (by omega) (by omega), ⟨⟨rfl, rfl, trivial⟩, i + 1, by omega, by omega, ?_⟩, by dsimp only; omega⟩
   rw [et, List.filter_append, List.filter_cons, if_neg (by rw [h]; decide), List.filter_nil, List.append_nil]
   exact hu
 ·have : i = A.length := by omega
  subst this
  rw [List.take_length] at hu
  exact hK u out hu
theorem rUses_k12_spec {K : Sl -> World -> Prop} (ha : Vw 1 encB v all A) (hm : Mk v 1 encB w s W) (hl : A.length <= 2 ^ 40) (hl' : W.length <= 2 ^ 41) (hK : ∀ w' s', Mk v 1 encB w' s' (A.filter fun o => decide (o ∈ W)) -> K s' w') : z1l_k12 all s K w :=
 ⟨rUses_l13_spec (ha.fr hm.fr0) hm.vw hl hl' fun w' s' h => hK w' s' ⟨hm.fr0.t h.fr0, h.ow, fun b hb => Nat.le_trans hm.fr0.1 (h.nw b hb)⟩⟩
def comL (L : List (List Int)) : List B := L.flatMap fun l => l.map lotC
theorem comL_len {L : List (List Int)} (h : ∀ l ∈ L, l.length <= 2 ^ 20) : (comL L).length <= L.length * 2 ^ 20 := by
 induction L with
 | nil => simp [comL]
 | cons a L ih =>
  have h1 := ih fun l hl => h l (List.mem_cons_of_mem _ hl)
  have h2 := h a (List.mem_cons_self ..)
  have e : comL (a :: L) = a.map lotC ++ comL L := rfl
  rw [e, List.length_append, List.length_map, List.length_cons, Nat.add_mul]
  omega
theorem rUses_l10_spec {K : Sl -> World -> Prop} (hx : TP v x t) (hF : Fit t) (hC : (comL t.combos).length <= 2 ^ 40) (ht : Row v tb x.cs) (ha : Vw 1 encB v all A) (hm : Mk v 1 encB w s W) (hl : A.length <= 2 ^ 40) (hl' : W.length <= 2 ^ 36)
  (hK : ∀ w' s', Mk v 1 encB w' s' (A.filter fun o => decide (o ∈ W ++ comL t.combos)) -> K s' w') : z1l_l10 ⟨tb, 0, none⟩ all s 0 K w := by
 obtain ⟨Z, hZ, hzl, hz⟩ := hx.combos
 have h20 := hF.combos
 have e13 : (x.f13.l : Int) = (t.combos.length : Int) := by rw [hZ.len, hzl]
 have hpre : ∀ L' : List (List Int), L' <+: t.combos -> (comL L').length <= (comL t.combos).length := fun L' ⟨r, hr⟩ => by
  rw [← hr]
  unfold comL
  rw [List.flatMap_append, List.length_append]
  omega
 refine ⟨⟨fun s' k u => ∃ k' : Nat, k = k' /\ k' <= t.combos.length /\ Mk v 1 encB u s' (W ++ comL (t.combos.take k')), fun _ k _ => t.combos.length - k.toNat, ⟨0, rfl, by omega, by simpa [comL] using hm⟩, ?_⟩⟩
 rintro s' k u ⟨k, rfl, hk, hu⟩
 unfold z1l_b10
 have hr := hu.fr0.row ht fun h => h
 refine ⟨x.f13, hr.at (i := 13) rfl, ?_⟩
 rw [e13]
 refine cnd_prop.2 ⟨fun hlt => ?_, fun hge => ?_⟩
 ·have hkl : k < t.combos.length := by omega
  have hkz : k < Z.length := by omega
  obtain ⟨c1, c2⟩ := hF.combo _ (List.getElem_mem hkl)
  have hzk := hz k hkz hkl
  have ezk := hzk.len
  have hp1 := hpre (t.combos.take (k + 1)) (List.take_prefix _ _)
  have et : t.combos.take (k + 1) = t.combos.take k ++ [t.combos[k]] := by rw [List.take_add_one, List.getElem?_eq_getElem hkl]; rfl
  have ec : comL (t.combos.take (k + 1)) = comL (t.combos.take k) ++ t.combos[k].map lotC := by
   rw [et]
   unfold comL
   rw [List.flatMap_append]
   simp
  rw [ec, List.length_append, List.length_map] at hp1
  refine ⟨⟨fun s' j u => ∃ j' : Nat, j = j' /\ j' <= t.combos[k].length /\ Mk v 1 encB u s' (W ++ comL (t.combos.take k) ++ (t.combos[k].take j').map lotC), fun _ j _ => t.combos[k].length - j.toNat, ⟨0, rfl, by omega, by simpa using hu⟩, ?_⟩⟩
  rintro s' j u ⟨j, rfl, hj, hu⟩
  unfold z1l_b11
  have hr := hu.fr0.row ht fun h => h
  have hZu := hZ.fr hu.fr0
  have hlen : ((t.combos[k].take j).map lotC).length <= t.combos[k].length := by simp; omega
  refine ⟨x.f13, hr.at (i := 13) rfl, ldZ hZu k rfl hkz ?_⟩
  refine cnd_prop.2 ⟨fun hlt => ?_, fun hge => ?_⟩
  ·have hjl : j < t.combos[k].length := by omega
   refine ⟨x.f13, hr.at (i := 13) rfl, ldZ hZu k rfl hkz (ldI (hzk.fr hu.fr0) j rfl hjl ?_)⟩
   refine rLot_spec (c2 _ (List.getElem_mem hjl)) fun w8 hf8 => ?_
   refine (hu.fr hf8).push (a := lotC t.combos[k][j]) rfl rfl encB_ok rfl (by simp only [List.length_append]; omega) (by simp only [List.length_append]; omega) fun s2 w2 h2 _ => ⟨inR64 (by omega) (by omega), ⟨⟨rfl, rfl, rfl, trivial⟩, j + 1, by omega, by omega, ?_⟩, by dsimp only; omega⟩
   rw [take_snoc lotC _ hjl, ← List.append_assoc]
   exact h2
  ·have : j = t.combos[k].length := by omega
   subst this
   rw [List.take_length, List.append_assoc, ← ec] at hu
   exact ⟨inR64 (by omega) (by omega), ⟨⟨rfl, rfl, trivial⟩, k + 1, by omega, by omega, hu⟩, by dsimp only; omega⟩
 ·have : k = t.combos.length := by omega
  subst this
  rw [List.take_length] at hu
  exact rUses_k12_spec ha hu hl (by rw [List.length_append]; omega) hK
theorem rUses_k9_spec {K : Sl -> World -> Prop} (hx : TP v x t) (hF : Fit t) (hC : (comL t.combos).length <= 2 ^ 40) (ht : Row v tb x.cs) (ha : Vw 1 encB v all A) (hm : Mk v 1 encB w s W) (hl : A.length <= 2 ^ 40) (hl' : W.length <= 2 ^ 36)
  (hK : ∀ w' s', Mk v 1 encB w' s' (A.filter fun o => decide (o ∈ W ++ (if c = wCombos then comL t.combos else []))) -> K s' w') : z1l_k9 (ofL c) ⟨tb, 0, none⟩ all s K w := by
 refine ⟨?_⟩
 unfold z1l_k9d
 rw [show decide (ofL c = str [99, 111, 109, 98, 111, 115]) = decide (c = wCombos) from ofL_dec c wCombos]
 refine cnd_prop.2 ⟨fun h => ?_, fun h => ?_⟩
 ·rw [if_pos h] at hK
  exact rUses_l10_spec hx hF hC ht ha hm hl hl' hK
 ·rw [if_neg h, List.append_nil] at hK
  exact rUses_k12_spec ha hm hl (by omega) hK
theorem rUses_k8_spec {K : Sl -> World -> Prop} (hx : TP v x t) (hF : Fit t) (hC : (comL t.combos).length <= 2 ^ 40) (ht : Row v tb x.cs) (ha : Vw 1 encB v all A) (hm : Mk v 1 encB w s W) (hl : A.length <= 2 ^ 40) (hl' : W.length <= 2 ^ 35)
  (hK : ∀ w' s', Mk v 1 encB w' s' (A.filter fun o => decide (o ∈ W ++ ((if c = wBudget then [wCombos] else []) ++ (if c = wCombos then comL t.combos else [])))) -> K s' w') : z1l_k8 (ofL c) ⟨tb, 0, none⟩ all s K w := by
 refine ⟨?_⟩
 unfold z1l_k8d
 rw [show decide (ofL c = str [98, 117, 100, 103, 101, 116]) = decide (c = wBudget) from ofL_dec c wBudget]
 refine cnd_prop.2 ⟨fun h => ?_, fun h => ?_⟩
 ·rw [if_pos h] at hK
  refine hm.push (a := wCombos) rfl rfl encB_ok rfl (by omega) (by omega) fun s2 w2 h2 _ => rUses_k9_spec hx hF hC ht ha h2 hl (by simp; omega) ?_
  rw [List.append_assoc]
  exact hK
 ·rw [if_neg h, List.nil_append] at hK
  exact rUses_k9_spec hx hF hC ht ha hm hl (by omega) hK
theorem rUses_k6_spec {K : Sl -> World -> Prop} (hx : TP v x t) (hF : Fit t) (hC : (comL t.combos).length <= 2 ^ 40) (ht : Row v tb x.cs) (ha : Vw 1 encB v all A) (hm : Mk v 1 encB w s W) (hl : A.length <= 2 ^ 40) (hl' : W.length <= 2 ^ 34)
  (hK : ∀ w' s', Mk v 1 encB w' s' (A.filter fun o => decide (o ∈ W ++ (t.lots.map (fun l => lotC l.1) ++ ((if c = wBudget then [wCombos] else []) ++ (if c = wCombos then comL t.combos else []))))) -> K s' w') : z1l_k6 (ofL c) ⟨tb, 0, none⟩ all s K w := by
 have h20 := hF.lots
 have e1 : (x.f1.l : Int) = (t.lots.length : Int) := by rw [hx.lots.len]
 refine ⟨⟨⟨fun s' i u => ∃ i' : Nat, i = i' /\ i' <= t.lots.length /\ Mk v 1 encB u s' (W ++ (t.lots.take i').map fun l => lotC l.1), fun _ i _ => t.lots.length - i.toNat, ⟨0, rfl, by omega, by simpa using hm⟩, ?_⟩⟩⟩
 rintro s' i u ⟨i, rfl, hi, hu⟩
 unfold z1l_b7
 have hr := hu.fr0.row ht fun h => h
 refine ⟨x.f1, hr.at (i := 1) rfl, ?_⟩
 rw [e1]
 refine cnd_prop.2 ⟨fun hlt => ?_, fun hge => ?_⟩
 ·have hil : i < t.lots.length := by omega
  refine ⟨x.f1, hr.at (i := 1) rfl, Vw.go encL_length (by decide) (hx.lots.fr hu.fr0) i rfl hil fun _ hc => ⟨_, hc 0 _ rfl, ?_⟩⟩
  refine rLot_spec (hF.lot _ (List.getElem_mem hil)).1 fun w8 hf8 => ?_
  refine (hu.fr hf8).push (a := lotC t.lots[i].1) rfl rfl encB_ok rfl (by simp; omega) (by simp; omega) fun s2 w2 h2 _ => ⟨inR64 (by omega) (by omega), ⟨⟨rfl, rfl, rfl, trivial⟩, i + 1, by omega, by omega, ?_⟩, by dsimp only; omega⟩
  rw [take_snoc (fun l => lotC l.1) _ hil, ← List.append_assoc]
  exact h2
 ·have : i = t.lots.length := by omega
  subst this
  rw [List.take_length] at hu
  refine rUses_k8_spec hx hF hC ht ha hu hl (by simp; omega) ?_
  rw [List.append_assoc]
  exact hK
theorem rUses_k5_spec {K : Sl -> World -> Prop} (hx : TP v x t) (hF : Fit t) (hC : (comL t.combos).length <= 2 ^ 40) (ht : Row v tb x.cs) (ha : Vw 1 encB v all A) (hm : Mk v 1 encB w s W) (hl : A.length <= 2 ^ 40) (hl' : W.length <= 2 ^ 34)
  (hK : ∀ w' s', Mk v 1 encB w' s' (A.filter fun o => decide (o ∈ W ++ ((if c = wMost \/ c = wBudget then t.lots.map (fun l => lotC l.1) else []) ++ ((if c = wBudget then [wCombos] else []) ++ (if c = wCombos then comL t.combos else []))))) -> K s' w') : z1l_k5 (ofL c) ⟨tb, 0, none⟩ all s K w := by
 refine ⟨?_⟩
 unfold z1l_k5d
 rw [show decide (ofL c = str [98, 117, 100, 103, 101, 116]) = decide (c = wBudget) from ofL_dec c wBudget, show decide (ofL c = str [109, 111, 115, 116]) = decide (c = wMost) from ofL_dec c wMost]
 refine cnd_prop.2 ⟨fun h => ?_, fun h => cnd_prop.2 ⟨fun h' => ?_, fun h' => ?_⟩⟩
 ·rw [if_pos (Or.inl h)] at hK
  exact rUses_k6_spec hx hF hC ht ha hm hl hl' hK
 ·rw [if_pos (Or.inr h')] at hK
  exact rUses_k6_spec hx hF hC ht ha hm hl hl' hK
 ·rw [if_neg (by simp [h, h']), List.nil_append] at hK
  exact rUses_k8_spec hx hF hC ht ha hm hl (by omega) hK
def namW (c : B) (N : List B) : List B := N.flatMap fun n => critC n :: if n = wPrice \/ (n = wLow /\ c = wForm) then [wRange] else []
theorem namW_len (c : B) (N : List B) : (namW c N).length <= 2 * N.length := by
 induction N with
 | nil => simp [namW]
 | cons a N ih =>
  have e : namW c (a :: N) = (critC a :: if a = wPrice \/ (a = wLow /\ c = wForm) then [wRange] else []) ++ namW c N := rfl
  rw [e, List.length_append, List.length_cons, List.length_cons]
  split <;> simp <;> omega
theorem rUses_k2_spec {K : Sl -> World -> Prop} (hx : TP v x t) (hF : Fit t) (hC : (comL t.combos).length <= 2 ^ 40) (ht : Row v tb x.cs) (ha : Vw 1 encB v all A) (hm : NW v w nm s N W) (hl : A.length <= 2 ^ 40) (hl' : W.length <= 2 ^ 20) (hN : N.length <= 2 ^ 31) (hNs : ∀ s ∈ N, s.length <= 2 ^ 30)
  (hK : ∀ w' s', Mk v 1 encB w' s' (A.filter fun o => decide (o ∈ W ++ (namW c N ++ ((if c = wMost \/ c = wBudget then t.lots.map (fun l => lotC l.1) else []) ++ ((if c = wBudget then [wCombos] else []) ++ (if c = wCombos then comL t.combos else [])))))) -> K s' w') : z1l_k2 (ofL c) ⟨tb, 0, none⟩ all s nm K w := by
 have el := hm.nv.len
 refine ⟨⟨⟨fun s' i u => ∃ i' : Nat, i = i' /\ i' <= N.length /\ NW v u nm s' N (W ++ namW c (N.take i')), fun _ i _ => N.length - i.toNat, ⟨0, rfl, by omega, by simpa [namW] using hm⟩, ?_⟩⟩⟩
 rintro s' i u ⟨i, rfl, hi, hu⟩
 unfold z1l_b3
 have hln := namW_len c (N.take i)
 have hlt' : (N.take i).length <= N.length := by simp; omega
 refine cnd_prop.2 ⟨fun hlt => ?_, fun hge => ?_⟩
 ·have hil : i < N.length := by omega
  have hns := hNs _ (List.getElem_mem hil)
  have e1 : namW c (N.take (i + 1)) = namW c (N.take i) ++ (critC N[i] :: if N[i] = wPrice \/ (N[i] = wLow /\ c = wForm) then [wRange] else []) := by
   rw [List.take_add_one, List.getElem?_eq_getElem hil]
   unfold namW
   rw [List.flatMap_append]
   simp
  refine ldB hu.nv i rfl hil ?_
  rw [str_crit, ofL_sz, ofL_sz, ofL_app]
  refine ⟨by unfold maxI; simp [wCrit]; omega, hu.push (a := critC N[i]) rfl (by rw [List.length_append]; omega) fun s2 w2 h2 => ldB h2.nv i rfl hil ?_⟩
  have k4 : (N[i] = wPrice \/ (N[i] = wLow /\ c = wForm)) -> ∀ {N3 : ByteArray -> Addr -> Sl -> Sl -> Sl -> Int -> World -> Prop}, (∀ s3 w3, NW v w3 nm s3 N (W ++ namW c (N.take (i + 1))) -> N3 (ofL c) ⟨tb, 0, none⟩ all s3 nm ((i : Int) + 1) w3) -> z1l_k4 (ofL c) ⟨tb, 0, none⟩ all s2 nm (i : Int) N3 K w2 := fun hp N3 h3 => by
   refine ⟨?_⟩
   unfold z1l_k4d
   refine h2.push (a := wRange) rfl (by simp only [List.length_append, List.length_cons, List.length_nil]; omega) fun s3 w3 g3 => ⟨inR64 (by omega) (by omega), h3 s3 w3 ?_⟩
   rw [e1, if_pos hp, show critC N[i] :: [wRange] = [critC N[i]] ++ [wRange] from rfl, ← List.append_assoc, ← List.append_assoc]
   exact g3
  have nx : ¬ (N[i] = wPrice \/ (N[i] = wLow /\ c = wForm)) -> NW v w2 nm s2 N (W ++ namW c (N.take (i + 1))) := fun hp => by
   rw [e1, if_neg hp, ← List.append_assoc]
   exact h2
  rw [show decide (ofL N[i] = str [112, 114, 105, 99, 101]) = decide (N[i] = wPrice) from ofL_dec _ wPrice]
  refine cnd_prop.2 ⟨fun h => k4 (.inl h) fun s3 w3 g3 => ⟨⟨⟨rfl, rfl, rfl, rfl, trivial⟩, i + 1, by omega, by omega, g3⟩, by dsimp only; omega⟩, fun h => ldB h2.nv i rfl hil ?_⟩
  rw [show decide (ofL N[i] = str [108, 111, 119]) = decide (N[i] = wLow) from ofL_dec _ wLow, show decide (ofL c = str [102, 111, 114, 109, 117, 108, 97]) = decide (c = wForm) from ofL_dec c wForm]
  refine cnd_prop.2 ⟨fun h1 => cnd_prop.2 ⟨fun h2' => k4 (.inr ⟨h1, h2'⟩) fun s3 w3 g3 => ⟨⟨⟨rfl, rfl, rfl, rfl, trivial⟩, i + 1, by omega, by omega, g3⟩, by dsimp only; omega⟩, fun h2' => ?_⟩, fun h1 => ?_⟩
  ·exact ⟨inR64 (by omega) (by omega), ⟨⟨rfl, rfl, rfl, rfl, trivial⟩, i + 1, by omega, by omega, nx (by simp [h, h2'])⟩, by dsimp only; omega⟩
  ·exact ⟨inR64 (by omega) (by omega), ⟨⟨rfl, rfl, rfl, rfl, trivial⟩, i + 1, by omega, by omega, nx (by simp [h, h1])⟩, by dsimp only; omega⟩
 ·have : i = N.length := by omega
  subst this
  rw [List.take_length] at hu hln
  refine rUses_k5_spec hx hF hC ht ha hu.ow hl (by rw [List.length_append]; omega) ?_
  rw [List.append_assoc]
  exact hK
theorem rUses_k1_spec {K : Sl -> World -> Prop} (hx : TP v x t) (hF : Fit t) (hC : (comL t.combos).length <= 2 ^ 40) (ht : Row v tb x.cs) (ha : Vw 1 encB v all A) (hm : NW v w nm s N W) (hl : A.length <= 2 ^ 40) (hl' : W.length <= 2 ^ 20) (hN : N.length <= 2 ^ 31) (hNs : ∀ s ∈ N, s.length <= 2 ^ 30)
  (hK : ∀ w' s', Mk v 1 encB w' s' (A.filter fun o => decide (o ∈ W ++ ((if c = wTies \/ c = wForm then namW c N else []) ++ ((if c = wMost \/ c = wBudget then t.lots.map (fun l => lotC l.1) else []) ++ ((if c = wBudget then [wCombos] else []) ++ (if c = wCombos then comL t.combos else [])))))) -> K s' w') : z1l_k1 (ofL c) ⟨tb, 0, none⟩ all s nm K w := by
 refine ⟨?_⟩
 unfold z1l_k1d
 rw [show decide (ofL c = str [116, 105, 101, 115]) = decide (c = wTies) from ofL_dec c wTies, show decide (ofL c = str [102, 111, 114, 109, 117, 108, 97]) = decide (c = wForm) from ofL_dec c wForm]
 refine cnd_prop.2 ⟨fun h => ?_, fun h => cnd_prop.2 ⟨fun h' => ?_, fun h' => ?_⟩⟩
 ·rw [if_pos (Or.inl h)] at hK
  exact rUses_k2_spec hx hF hC ht ha hm hl hl' hN hNs hK
 ·rw [if_pos (Or.inr h')] at hK
  exact rUses_k2_spec hx hF hC ht ha hm hl hl' hN hNs hK
 ·rw [if_neg (by simp [h, h']), List.nil_append] at hK
  exact rUses_k5_spec hx hF hC ht ha hm.ow hl (by omega) hK
def reqW (t : Td) (c : B) (n : Nat) : List B := ((List.range n).filter (fun k => decide (c = reqC k))).map (fun k => critC ((t.reqs[k]?.map (·.name)).getD []))
theorem reqW_len (t : Td) (c : B) (n : Nat) : (reqW t c n).length <= n := by
 unfold reqW
 rw [List.length_map]
 exact Nat.le_trans (List.length_filter_le _ _) (by simp)
theorem namesR_len {e : Fm} {s : B} (h : s ∈ e.namesR) : s.length <= 30 := by
 unfold Fm.namesR at h
 split at h
 ·rename_i hr
  have hs : e.sound = true := by
   unfold Fm.right at hr
   simp only [Bool.and_eq_true] at hr
   exact hr.1
  clear hr
  induction e with
  | num n d => simp [Fm.names] at h
  | name r =>
   simp only [Fm.names, List.mem_singleton] at h
   subst h
   simp only [Fm.sound, nameOk, Bool.and_eq_true] at hs
   have := hs.1
   unfold isNameB at this
   split at this
   ·cases this
   ·simp only [Bool.and_eq_true, decide_eq_true_eq] at this
    exact this.1
  | op o a b iha ihb =>
   simp only [Fm.sound, Bool.and_eq_true] at hs
   simp only [Fm.names, List.mem_append] at h
   rcases h with h | h
   ·exact iha h hs.1
   ·exact ihb h hs.2
 ·cases h
theorem rUses_spec {K : Sl -> World -> Prop} (hx : TP w x t) (hF : Fit t) (hK : ∀ w' s', Mk w 1 encB w' s' (uses t c) -> K s' w') : z1l_sh x (ofL c) K w := by
 have h20 := hF.reqs
 have h1 := hF.lots
 have h2 := hF.crit
 have h4 := hF.ties
 have h5 := hF.combos
 have hp := hF.fp
 have hC : (comL t.combos).length <= 2 ^ 40 := by
  have := comL_len (L := t.combos) fun l hl => (hF.combo l hl).1
  omega
 have hcl := clauses_len t
 refine ⟨?_⟩
 unfold z1l_sd
 intro w1
 have m : Mem w w1 [(w.heap.size, x.cs)] := Mem.nil.allocL
 clear_value w1
 refine T43.ld_row (m.row 0 rfl) (rClauses_spec (hx.fr m.1) hF fun v all hall => ?_)
 have F := m.1.t hall.fr0
 refine rhas_spec hall.vw (by omega) (cnd_iff.2 ⟨fun h => ?_, fun h => ?_⟩)
 ·refine hK v _ ?_
  have : c ∉ clauses t := by simpa using h
  unfold uses
  rw [if_neg this]
  exact Mk.nil F
 have hc : c ∈ clauses t := by simpa using h
 have ht : Row v w.heap.size x.cs := hall.fr0.row (m.row 0 rfl) fun h => h
 have hxv := hx.fr F
 have e3 : (x.f3.l : Int) = (t.reqs.length : Int) := by rw [hx.reqs.len]
 refine ⟨⟨fun s' i u => ∃ i' : Nat, i = i' /\ i' <= t.reqs.length /\ Mk v 1 encB u s' (reqW t c i'), fun _ i _ => t.reqs.length - i.toNat, ⟨0, rfl, by omega, Mk.nil Fr.refl⟩, ?_⟩⟩
 rintro s' i u ⟨i, rfl, hi, hu⟩
 unfold z1l_b0
 have hr := hu.fr0.row ht fun h => h
 have hwl := reqW_len t c i
 refine ⟨x.f3, hr.at (i := 3) rfl, ?_⟩
 rw [e3]
 refine cnd_prop.2 ⟨fun hlt => ?_, fun hge => ?_⟩
 ·have hil : i < t.reqs.length := by omega
  have h64 : I64 ((i : Int) + 1) := ⟨by omega, by omega⟩
  have := itoa_len' h64
  have hn20 := (hF.rq _ (List.getElem_mem hil)).1
  refine ⟨inR64 (by omega) (by omega), rdecimal_spec h64 fun w8 f8 => ?_⟩
  rw [str_req, ofL_sz, ofL_sz, ofL_app, ofL_dec]
  refine ⟨by unfold maxI; simp [wReq]; omega, cnd_prop.2 ⟨fun he => ?_, fun he => ?_⟩⟩
  ·have he : c = reqC i := he
   refine ⟨x.f3, (f8.row hr fun h => h).at (i := 3) rfl, Vw.go encR_length (by decide) (hxv.reqs.fr (hu.fr0.t f8)) i rfl hil fun _ hc => ⟨_, hc 0 _ rfl, ?_⟩⟩
   rw [str_crit, ofL_sz, ofL_sz, ofL_app]
   refine ⟨by unfold maxI; simp [wCrit]; omega, (hu.fr f8).push (a := critC t.reqs[i].name) rfl rfl encB_ok rfl (by omega) (by omega) fun s2 w2 g2 _ => ⟨inR64 (by omega) (by omega), ⟨⟨rfl, rfl, rfl, trivial⟩, i + 1, by omega, by omega, ?_⟩, by dsimp only; omega⟩⟩
   have e : reqW t c (i + 1) = reqW t c i ++ [critC t.reqs[i].name] := by
    unfold reqW
    rw [List.range_succ, List.filter_append, List.map_append, List.filter_cons, if_pos (decide_eq_true he)]
    simp [hil]
   rw [e]
   exact g2
  ·refine ⟨inR64 (by omega) (by omega), ⟨⟨rfl, rfl, rfl, trivial⟩, i + 1, by omega, by omega, ?_⟩, by dsimp only; omega⟩
   have e : reqW t c (i + 1) = reqW t c i := by
    unfold reqW
    have : ¬ decide (c = reqC i) = true := fun h => he (of_decide_eq_true h)
    rw [List.range_succ, List.filter_append, List.filter_cons, if_neg this, List.filter_nil, List.append_nil]
   rw [e]
   exact hu.fr f8
 ·have : i = t.reqs.length := by omega
  subst this
  refine ⟨_, hr.at (i := 6) rfl, _, hr.at (i := 7) rfl, _, hr.at (i := 8) rfl, _, hr.at (i := 9) rfl, x.f10, hr.at (i := 10) rfl, ?_⟩
  refine rNames_spec (c := ⟨x.f6, x.f7, x.f8, x.f9, x.f10⟩) (hxv.fm.fr hu.fr0) (by omega) fun w21 r22 N f21 v21 n21 hN hNl => ?_
  have hu21 := hu.fr f21
  have lst : ∀ b, inB s' b -> b < u.heap.size := fun b hb => hu.ow.lt' hb
  have fin : ∀ w' s'', Mk v 1 encB w' s'' ((clauses t).filter fun o => decide (o ∈ reqW t c t.reqs.length ++ ((if c = wTies \/ c = wForm then namW c (if c = wTies then t.ties else N) else []) ++ ((if c = wMost \/ c = wBudget then t.lots.map (fun l => lotC l.1) else []) ++ ((if c = wBudget then [wCombos] else []) ++ (if c = wCombos then comL t.combos else [])))))) -> K s'' w' := fun w' s'' h => by
   refine hK w' s'' ?_
   rw [← uses_ref hN hc]
   exact ⟨F.t h.fr0, h.ow, fun b hb => Nat.le_trans F.1 (h.nw b hb)⟩
  rw [show decide (ofL c = str [116, 105, 101, 115]) = decide (c = wTies) from ofL_dec c wTies]
  refine cnd_prop.2 ⟨fun h => ?_, fun h => ?_⟩
  ·rw [if_pos h] at fin
   refine ⟨x.f11, (f21.row hr fun h => h).at (i := 11) rfl, ?_⟩
   refine rUses_k1_spec hxv hF hC ht hall.vw ⟨hu21, hxv.ties.fr hu21.fr0, fun hne b hb => ?_⟩ (by omega) (by omega) (by omega) (fun s hs => by have := hF.tie s hs; omega) fin
   have := hxv.ties.lt encB_length (by decide) hne b hb
   have h3 := hu21.fr0.1
   exact ⟨by omega, fun hs => by have := hu.nw b hs; omega⟩
  ·rw [if_neg h] at fin
   refine rUses_k1_spec hxv hF hC ht hall.vw ⟨hu21, v21, fun hne b hb => ?_⟩ (by omega) (by omega) (by omega) (fun s hs => by have := namesR_len ((hN s).1 hs); omega) fin
   have := v21.lt encB_length (by decide) hne b hb
   exact ⟨this, fun hs => by have := lst b hs; have := n21 b hb; omega⟩
end
end Go.Proofs.YtfkmpbpkahcogaaGreatDoor
namespace Pw
open Go
theorem szle {a b : List UInt8} (h : a.length + b.length <= 2 ^ 62) : (((ofL a).size + (ofL b).size : Nat) : Int) <= maxI := by
 rw [ofL_sz, ofL_sz]
 unfold maxI
 omega
theorem e32 : str [32] = ofL [32] := rfl
theorem e124 : str [124] = ofL [124] := rfl
theorem eless : str [32, 108, 101, 115, 115] = ofL [32, 108, 101, 115, 115] := rfl
end Pw
namespace Go.Proofs.YtfkmpbpkahcogaaGreatDoor
open Go Pw Dp
section
variable {v w u w' : World} {x : T43} {t : Td} {tb : Nat} {c : B} {K : ByteArray -> World -> Prop}
theorem find_hit {α : Type} {p : α -> Bool} {l : List α} {i : Nat} (hi : i < l.length) (h : p l[i] = true) (hb : ∀ j (hj : j < i), p (l[j]'(by omega)) = false) : l.find? p = some l[i] :=
 List.find?_eq_some_iff_getElem.2 ⟨h, i, hi, rfl, fun j hj => by simp [hb j hj]⟩
theorem find_no {α : Type} {p : α -> Bool} {l : List α} (h : ∀ j (hj : j < l.length), p l[j] = false) : l.find? p = none :=
 List.find?_eq_none.2 fun x hx => by
  obtain ⟨j, hj, rfl⟩ := List.mem_iff_getElem.1 hx
  simp [h j hj]
theorem tiesT_len {l : List B} (h : ∀ s ∈ l, s.length <= 2 ^ 20) : (tiesT l).length <= l.length * 2 ^ 21 := by
 induction l with
 | nil => simp [tiesT]
 | cons a l ih =>
  have h1 := ih fun s hs => h s (List.mem_cons_of_mem _ hs)
  have h2 := h a (List.mem_cons_self ..)
  have h3 := itoa_len' (len64 h2)
  have e : tiesT (a :: l) = tieT a ++ tiesT l := rfl
  rw [e, List.length_append, List.length_cons, Nat.add_mul]
  unfold tieT
  simp only [List.length_append, List.length_cons, List.length_nil]
  omega
theorem idsT_len {l : List Int} (h : ∀ i ∈ l, I64 i) : (idsT l).length <= l.length * 22 := by
 induction l with
 | nil => simp [idsT]
 | cons a l ih =>
  have h1 := ih fun s hs => h s (List.mem_cons_of_mem _ hs)
  have h2 := itoa_len' (h a (List.mem_cons_self ..))
  have e : idsT (a :: l) = (Lib.itoa a ++ [32]) ++ idsT l := rfl
  rw [e, List.length_append, List.length_cons, Nat.add_mul, List.length_append]
  simp only [List.length_cons, List.length_nil]
  omega
theorem combosT_len {l : List (List Int)} (h : ∀ c ∈ l, c.length <= 2 ^ 20 /\ ∀ i ∈ c, I64 i) : (combosT l).length <= l.length * 2 ^ 25 := by
 induction l with
 | nil => simp [combosT]
 | cons a l ih =>
  have h1 := ih fun s hs => h s (List.mem_cons_of_mem _ hs)
  obtain ⟨h2, h3⟩ := h a (List.mem_cons_self ..)
  have h4 := idsT_len h3
  have e : combosT (a :: l) = (124 :: idsT a) ++ combosT l := rfl
  rw [e, List.length_append, List.length_cons, List.length_cons, Nat.add_mul]
  omega
theorem rCont_ties {T : B} (hx : TP v x t) (hF : Fit t) (ht : Row v tb x.cs) (hf : Fr F0 v w) (hT : T = []) (hK : ∀ w', Fr F0 v w' -> K (ofL (tiesT t.ties)) w') : z0j_l3 ⟨tb, 0, none⟩ (ofL T) 0 K w := by
 subst hT
 have h20 := hF.ties
 have e11 : (x.f11.l : Int) = (t.ties.length : Int) := by rw [hx.ties.len]
 refine ⟨⟨fun s i u => ∃ i' : Nat, i = i' /\ i' <= t.ties.length /\ Fr F0 v u /\ s = ofL (tiesT (t.ties.take i')), fun _ i _ => t.ties.length - i.toNat, ⟨0, rfl, by omega, hf, rfl⟩, ?_⟩⟩
 rintro s i u ⟨i, rfl, hi, hf, rfl⟩
 unfold z0j_b3
 have hr := hf.row ht fun h => h
 refine ⟨x.f11, hr.at (i := 11) rfl, ?_⟩
 rw [e11]
 refine cnd_prop.2 ⟨fun hlt => ?_, fun hge => ?_⟩
 ·have hil : i < t.ties.length := by omega
  have hs := hF.tie _ (List.getElem_mem hil)
  have hl := tiesT_len (l := t.ties.take i) fun s hs => hF.tie s (List.mem_of_mem_take hs)
  have hlt' : (t.ties.take i).length <= t.ties.length := by simp; omega
  have hl2 := itoa_len' (len64 hs)
  intro w2
  have f2 : Fr F0 u w2 := Fr.drew
  clear_value w2
  have F2 := hf.t f2
  have rd : ∀ {J : ByteArray -> Prop}, J (ofL t.ties[i]) -> ∃ x71 : Sl, (∀ w' : World, Fr F0 w2 w' -> w'.cell? ((⟨tb, 0, none⟩ : Addr).add 11) = some (Value.slice x71.p x71.l x71.c)) /\ nz x71.p fun a72 => (0 <= (i : Int) /\ (i : Int) < (x71.l : Nat)) /\ ∃ x73 : ByteArray, (∀ w' : World, Fr F0 w2 w' -> w'.cell? (a72.add ((i : Int).toNat * 1)) = some (Value.string x73)) /\ J x73 := fun {J} hJ =>
   ⟨x.f11, fun w' hw => ((F2.t hw).row ht fun h => h).at (i := 11) rfl, Vw.goS encB_length (by decide) Fr.refl (fun w' hw => hx.ties.fr (F2.t hw)) i rfl hil fun _ hc => ⟨_, hc 0 _ rfl, hJ⟩⟩
  refine ⟨fun w' => Fr F0 w2 w', Fr.refl, rd (rd ?_)⟩
  rw [ofL_sz]
  refine rdecimal_spec (len64 hs) fun w3 f3 => ⟨f3, ?_⟩
  simp -zeta only [e32, ofL_app]
  have e : tiesT (t.ties.take i) ++ Lib.itoa (t.ties[i].length : Int) ++ [32] ++ t.ties[i] = tiesT (t.ties.take (i + 1)) := by
   rw [List.take_add_one, List.getElem?_eq_getElem hil]
   unfold tiesT
   rw [List.flatMap_append]
   simp [tieT]
  refine ⟨szle (by omega), szle (by simp only [List.length_append, List.length_cons, List.length_nil]; omega), szle (by simp only [List.length_append, List.length_cons, List.length_nil]; omega), inR64 (by omega) (by omega), ?_⟩
  rw [e]
  exact ⟨⟨⟨trivial, trivial⟩, i + 1, by omega, by omega, F2.t f3, rfl⟩, by omega⟩
 ·have : i = t.ties.length := by omega
  subst this
  rw [List.take_length]
  exact hK u hf
theorem rCont_combos {T : B} (hx : TP v x t) (hF : Fit t) (ht : Row v tb x.cs) (hf : Fr F0 v w) (hT : T = []) (hK : ∀ w', Fr F0 v w' -> K (ofL (combosT t.combos)) w') : z0j_l4 ⟨tb, 0, none⟩ (ofL T) 0 K w := by
 subst hT
 obtain ⟨Z, hZ, hzl, hz⟩ := hx.combos
 have h20 := hF.combos
 have e13 : (x.f13.l : Int) = (t.combos.length : Int) := by rw [hZ.len, hzl]
 refine ⟨⟨fun s k u => ∃ k' : Nat, k = k' /\ k' <= t.combos.length /\ Fr F0 v u /\ s = ofL (combosT (t.combos.take k')), fun _ k _ => t.combos.length - k.toNat, ⟨0, rfl, by omega, hf, rfl⟩, ?_⟩⟩
 rintro s k u ⟨k, rfl, hk, hf, rfl⟩
 unfold z0j_b4
 have hr := hf.row ht fun h => h
 refine ⟨x.f13, hr.at (i := 13) rfl, ?_⟩
 rw [e13]
 refine cnd_prop.2 ⟨fun hlt => ?_, fun hge => ?_⟩
 ·have hkl : k < t.combos.length := by omega
  have hkz : k < Z.length := by omega
  obtain ⟨c1, c2⟩ := hF.combo _ (List.getElem_mem hkl)
  have hzk := hz k hkz hkl
  have ezk := hzk.len
  have hl := combosT_len (l := t.combos.take k) fun s hs => hF.combo s (List.mem_of_mem_take hs)
  have hlt' : (t.combos.take k).length <= t.combos.length := by simp; omega
  have ec : combosT (t.combos.take (k + 1)) = combosT (t.combos.take k) ++ (124 :: idsT t.combos[k]) := by
   rw [List.take_add_one, List.getElem?_eq_getElem hkl]
   unfold combosT
   rw [List.flatMap_append]
   simp
  simp -zeta only [e124, ofL_app]
  refine ⟨szle (by simp; omega), ⟨⟨fun s j u => ∃ j' : Nat, j = j' /\ j' <= t.combos[k].length /\ Fr F0 v u /\ s = ofL (combosT (t.combos.take k) ++ (124 :: idsT (t.combos[k].take j'))), fun _ j _ => t.combos[k].length - j.toNat, ⟨0, rfl, by omega, hf, rfl⟩, ?_⟩⟩⟩
  rintro s j u ⟨j, rfl, hj, hf, rfl⟩
  unfold z0j_b5
  have hr := hf.row ht fun h => h
  have hZu := hZ.fr hf
  refine ⟨x.f13, hr.at (i := 13) rfl, ldZ hZu k rfl hkz ?_⟩
  refine cnd_prop.2 ⟨fun hlt => ?_, fun hge => ?_⟩
  ·have hjl : j < t.combos[k].length := by omega
   have h64 := c2 _ (List.getElem_mem hjl)
   have hil := idsT_len (l := t.combos[k].take j) fun s hs => c2 s (List.mem_of_mem_take hs)
   have hlj : (t.combos[k].take j).length <= t.combos[k].length := by simp; omega
   have h21 := itoa_len' h64
   have e : combosT (t.combos.take k) ++ (124 :: idsT (t.combos[k].take j)) ++ Lib.itoa t.combos[k][j] ++ [32] = combosT (t.combos.take k) ++ (124 :: idsT (t.combos[k].take (j + 1))) := by
    rw [List.take_add_one, List.getElem?_eq_getElem hjl]
    unfold idsT
    rw [List.flatMap_append]
    simp
   refine ⟨x.f13, hr.at (i := 13) rfl, ldZ hZu k rfl hkz (ldI (hzk.fr hf) j rfl hjl ?_)⟩
   refine rdecimal_spec h64 fun w8 f8 => ?_
   simp -zeta only [e32, ofL_app]
   refine ⟨szle (by simp only [List.length_append, List.length_cons, List.length_nil]; omega), szle (by simp only [List.length_append, List.length_cons, List.length_nil]; omega), inR64 (by omega) (by omega), ?_⟩
   rw [e]
   exact ⟨⟨⟨trivial, trivial, trivial⟩, j + 1, by omega, by omega, hf.t f8, rfl⟩, by omega⟩
  ·have : j = t.combos[k].length := by omega
   subst this
   rw [List.take_length, ← ec]
   exact ⟨inR64 (by omega) (by omega), ⟨⟨rfl, trivial⟩, k + 1, by omega, by omega, hf, rfl⟩, by omega⟩
 ·have : k = t.combos.length := by omega
  subst this
  rw [List.take_length]
  exact hK u hf
theorem rCont_l2 (hx : TP v x t) (hF : Fit t) (ht : Row v tb x.cs) (hf : Fr F0 v w) (h0 : t.lots.find? (fun l => decide (lotC l.1 = c)) = none) (h1 : t.crit.find? (fun x => decide (critC x.name = c)) = none) (hK : ∀ w', Fr F0 v w' -> K (ofL (contT t c)) w') : z0j_l2 (ofL c) ⟨tb, 0, none⟩ 0 K w := by
 have h20 := hF.reqs
 have e3 : (x.f3.l : Int) = (t.reqs.length : Int) := by rw [hx.reqs.len]
 refine ⟨⟨fun i u => ∃ i' : Nat, i = i' /\ i' <= t.reqs.length /\ Fr F0 v u /\ ∀ j, j < i' -> c ≠ reqC j, fun i _ => t.reqs.length - i.toNat, ⟨0, rfl, by omega, hf, fun j h => by omega⟩, ?_⟩⟩
 rintro i u ⟨i, rfl, hi, hf, hb⟩
 unfold z0j_b2
 have hr := hf.row ht fun h => h
 refine ⟨x.f3, hr.at (i := 3) rfl, ?_⟩
 rw [e3]
 refine cnd_prop.2 ⟨fun hlt => ?_, fun hge => ?_⟩
 ·have hil : i < t.reqs.length := by omega
  have h64 : I64 ((i : Int) + 1) := ⟨by omega, by omega⟩
  have := itoa_len' h64
  obtain ⟨n1, n2, n3⟩ := hF.rq _ (List.getElem_mem hil)
  refine ⟨inR64 (by omega) (by omega), rdecimal_spec h64 fun w8 f8 => ?_⟩
  rw [str_req, ofL_app, ofL_dec]
  have F8 := hf.t f8
  refine ⟨szle (by simp [wReq]; omega), cnd_prop.2 ⟨fun he => ?_, fun he => ?_⟩⟩
  ·have he : c = reqC i := he
   have hr8 := F8.row ht fun h => h
   refine ⟨x.f3, hr8.at (i := 3) rfl, ldR (hx.reqs.fr F8) i rfl hil ?_⟩
   have hq : t.reqs[i] = ⟨t.reqs[i].name, t.reqs[i].rel, t.reqs[i].val⟩ := rfl
   generalize t.reqs[i].name = qa at *
   generalize t.reqs[i].rel = qb at *
   generalize t.reqs[i].val = qv at *
   refine stN_new (vs := [.string (ofL qa), .string (ofL qb), .int .i64 qv]) rfl Mem.nil fun w45 m => ?_
   intro w46
   have m : Mem w8 w46 [(w8.heap.size, [.string (ofL qa), .string (ofL qb), .int .i64 qv])] := m.drew
   clear_value w46
   have hb46 := m.row 0 rfl
   have R : ∀ w', Fr F0 w46 w' -> Row w' w8.heap.size [.string (ofL qa), .string (ofL qb), .int .i64 qv] := fun w' hw => hw.row hb46 fun h => h
   refine ⟨fun w' => Fr F0 w46 w', Fr.refl, ofL qa, fun w' hw => (R w' hw).at rfl, ofL qa, fun w' hw => (R w' hw).at rfl, ofL qb, fun w' hw => (R w' hw).at rfl, ofL qb, fun w' hw => (R w' hw).at rfl, qv, fun w' hw => (R w' hw).at rfl, ?_⟩
   rw [ofL_sz, ofL_sz]
   have k1 := itoa_len' (len64 n1)
   have k2 := itoa_len' (len64 n2)
   have k3 := itoa_len' n3
   refine rdecimal_spec (len64 n1) fun w53 f53 => ⟨f53, ?_⟩
   simp -zeta only [e32, ofL_app]
   refine ⟨szle (by simp only [List.length_append, List.length_cons, List.length_nil]; omega), szle (by simp only [List.length_append, List.length_cons, List.length_nil]; omega), ?_⟩
   refine rdecimal_spec (len64 n2) fun w55 f55 => ⟨f53.t f55, ?_⟩
   simp -zeta only [e32, ofL_app]
   refine ⟨szle (by simp only [List.length_append, List.length_cons, List.length_nil]; omega), szle (by simp only [List.length_append, List.length_cons, List.length_nil]; omega), szle (by simp only [List.length_append, List.length_cons, List.length_nil]; omega), ?_⟩
   refine rdecimal_spec n3 fun w57 f57 => ⟨f53.t (f55.t f57), ?_⟩
   simp -zeta only [ofL_app]
   refine ⟨szle (by simp only [List.length_append, List.length_cons, List.length_nil]; omega), ?_⟩
   have e : contT t c = reqT ⟨qa, qb, qv⟩ := by
    unfold contT
    rw [h0, h1, he, reqF_at hil (by omega), hq]
   have := hK w57 (F8.t (m.1.t (f53.t (f55.t f57))))
   rw [e] at this
   exact this
  ·have he : c ≠ reqC i := he
   refine ⟨inR64 (by omega) (by omega), ⟨⟨rfl, rfl, trivial⟩, i + 1, by omega, by omega, F8, fun j hj => ?_⟩, by dsimp only; omega⟩
   rcases Nat.lt_or_ge j i with h | h
   ·exact hb j h
   ·have : j = i := by omega
    subst this
    exact he
 ·have : i = t.reqs.length := by omega
  subst this
  have hq : reqF t c = none := by
   unfold reqF
   have : (List.range t.reqs.length).find? (fun k => decide (c = reqC k)) = none := List.find?_eq_none.2 fun k hk => by simpa using hb k (by simpa using hk)
   rw [this]
   rfl
  have er : contT t c = restT t c := by
   unfold contT
   rw [h0, h1, hq]
  rw [er] at hK
  unfold restT at hK
  have cell : ∀ {n : Int} {i : Nat} {w' : World}, x.cs[i]? = some (.int .i64 n) -> Fr F0 v w' -> w'.cell? ((⟨tb, 0, none⟩ : Addr).add i) = some (.int .i64 n) := fun h hw => by
   rw [add_mk, Nat.zero_add]
   exact (hw.row ht fun h => h).at h
  rw [show decide (ofL c = str [110, 97, 109, 101]) = decide (c = wName) from ofL_dec c wName, show decide (ofL c = str [114, 97, 110, 103, 101]) = decide (c = wRange) from ofL_dec c wRange, show decide (ofL c = str [116, 105, 101, 115]) = decide (c = wTies) from ofL_dec c wTies, show decide (ofL c = str [109, 111, 115, 116]) = decide (c = wMost) from ofL_dec c wMost,
   show decide (ofL c = str [99, 111, 109, 98, 111, 115]) = decide (c = wCombos) from ofL_dec c wCombos, show decide (ofL c = str [98, 117, 100, 103, 101, 116]) = decide (c = wBudget) from ofL_dec c wBudget, show decide (ofL c = str [116, 105, 109, 101, 115]) = decide (c = wTimes) from ofL_dec c wTimes]
  refine cnd_prop.2 ⟨fun h => ?_, fun n1 => cnd_prop.2 ⟨fun h => ?_, fun n2 => cnd_prop.2 ⟨fun h => ?_, fun n3 => cnd_prop.2 ⟨fun h => ?_, fun n4 => cnd_prop.2 ⟨fun h => ?_, fun n5 => cnd_prop.2 ⟨fun h => ?_, fun n6 => cnd_prop.2 ⟨fun h => ?_, fun n7 => ?_⟩⟩⟩⟩⟩⟩⟩
  ·rw [if_pos h] at hK
   refine ⟨x.f0, hr.at (i := 0) rfl, ?_⟩
   rw [hx.name]
   exact hK u hf
  ·rw [if_neg n1, if_pos h] at hK
   intro w60
   have f60 : Fr F0 u w60 := Fr.drew
   clear_value w60
   have F60 := hf.t f60
   have k1 := itoa_len' hF.low
   have k2 := itoa_len' hF.high
   refine ⟨fun w' => Fr F0 w60 w', Fr.refl, x.f4, fun w' hw => cell rfl (F60.t hw), x.f5, fun w' hw => cell rfl (F60.t hw), ?_⟩
   rw [hx.low, hx.high]
   refine rdecimal_spec hF.low fun w64 f64 => ⟨f64, ?_⟩
   simp -zeta only [e32, ofL_app]
   refine ⟨szle (by simp only [List.length_append, List.length_cons, List.length_nil]; omega), ?_⟩
   refine rdecimal_spec hF.high fun w66 f66 => ?_
   simp -zeta only [ofL_app]
   exact ⟨f64.t f66, szle (by simp only [List.length_append, List.length_cons, List.length_nil]; omega), hK w66 (F60.t (f64.t f66))⟩
  ·rw [if_neg n1, if_neg n2, if_pos h] at hK
   exact rCont_ties (T := []) hx hF ht hf rfl hK
  ·rw [if_neg n1, if_neg n2, if_neg n3, if_pos h] at hK
   refine ⟨x.f12, cell rfl hf, ?_⟩
   rw [hx.most]
   exact rdecimal_spec hF.most fun w' f => hK w' (hf.t f)
  ·rw [if_neg n1, if_neg n2, if_neg n3, if_neg n4, if_pos h] at hK
   exact rCont_combos (T := []) hx hF ht hf rfl hK
  ·rw [if_neg n1, if_neg n2, if_neg n3, if_neg n4, if_neg n5, if_pos h] at hK
   refine ⟨x.f14, cell rfl hf, ?_⟩
   rw [hx.budget]
   exact rdecimal_spec hF.budget fun w' f => hK w' (hf.t f)
  ·rw [if_neg n1, if_neg n2, if_neg n3, if_neg n4, if_neg n5, if_neg n6, if_pos h] at hK
   intro w96
   have f96 : Fr F0 u w96 := Fr.drew
   clear_value w96
   have F96 := hf.t f96
   have k1 := itoa_len' hF.t1
   have k2 := itoa_len' hF.t2
   have k3 := itoa_len' hF.t3
   have k4 := itoa_len' hF.t4
   have k5 := itoa_len' hF.t5
   refine ⟨fun w' => Fr F0 w96 w', Fr.refl, x.f15, fun w' hw => cell rfl (F96.t hw), x.f16, fun w' hw => cell rfl (F96.t hw), x.f17, fun w' hw => cell rfl (F96.t hw), x.f18, fun w' hw => cell rfl (F96.t hw), x.f19, fun w' hw => cell rfl (F96.t hw), ?_⟩
   rw [hx.t1, hx.t2, hx.t3, hx.t4, hx.t5]
   refine rdecimal_spec hF.t1 fun w1 f1 => ⟨f1, ?_⟩
   simp -zeta only [e32, ofL_app]
   refine ⟨szle (by simp only [List.length_append, List.length_cons, List.length_nil]; omega), ?_⟩
   refine rdecimal_spec hF.t2 fun w2 f2 => ⟨f1.t f2, ?_⟩
   simp -zeta only [e32, ofL_app]
   refine ⟨szle (by simp only [List.length_append, List.length_cons, List.length_nil]; omega), szle (by simp only [List.length_append, List.length_cons, List.length_nil]; omega), ?_⟩
   refine rdecimal_spec hF.t3 fun w3 f3 => ⟨f1.t (f2.t f3), ?_⟩
   simp -zeta only [e32, ofL_app]
   refine ⟨szle (by simp only [List.length_append, List.length_cons, List.length_nil]; omega), szle (by simp only [List.length_append, List.length_cons, List.length_nil]; omega), ?_⟩
   refine rdecimal_spec hF.t4 fun w4 f4 => ⟨f1.t (f2.t (f3.t f4)), ?_⟩
   simp -zeta only [e32, ofL_app]
   refine ⟨szle (by simp only [List.length_append, List.length_cons, List.length_nil]; omega), szle (by simp only [List.length_append, List.length_cons, List.length_nil]; omega), ?_⟩
   refine rdecimal_spec hF.t5 fun w5 f5 => ⟨f1.t (f2.t (f3.t (f4.t f5))), ?_⟩
   simp -zeta only [ofL_app]
   exact ⟨szle (by simp only [List.length_append, List.length_cons, List.length_nil]; omega), hK w5 (F96.t (f1.t (f2.t (f3.t (f4.t f5)))))⟩
  ·rw [if_neg n1, if_neg n2, if_neg n3, if_neg n4, if_neg n5, if_neg n6, if_neg n7] at hK
   exact hK u hf
theorem rCont_l1 (hx : TP v x t) (hF : Fit t) (ht : Row v tb x.cs) (hf : Fr F0 v w) (h0 : t.lots.find? (fun l => decide (lotC l.1 = c)) = none) (hK : ∀ w', Fr F0 v w' -> K (ofL (contT t c)) w') : z0j_l1 (ofL c) ⟨tb, 0, none⟩ 0 K w := by
 have h20 := hF.crit
 have e2 : (x.f2.l : Int) = (t.crit.length : Int) := by rw [hx.crit.len]
 refine ⟨⟨fun i u => ∃ i' : Nat, i = i' /\ i' <= t.crit.length /\ Fr F0 v u /\ ∀ j (hj : j < t.crit.length), j < i' -> critC t.crit[j].name ≠ c, fun i _ => t.crit.length - i.toNat, ⟨0, rfl, by omega, hf, fun j _ h => by omega⟩, ?_⟩⟩
 rintro i u ⟨i, rfl, hi, hf, hb⟩
 unfold z0j_b1
 have hr := hf.row ht fun h => h
 refine ⟨x.f2, hr.at (i := 2) rfl, ?_⟩
 rw [e2]
 refine cnd_prop.2 ⟨fun hlt => ?_, fun hge => ?_⟩
 ·have hil : i < t.crit.length := by omega
  obtain ⟨n1, n2, n3, n4⟩ := hF.cr _ (List.getElem_mem hil)
  refine ⟨x.f2, hr.at (i := 2) rfl, ldCr (hx.crit.fr hf) i rfl hil ?_⟩
  refine stN_new (vs := encC t.crit[i]) rfl Mem.nil fun w22 m => ?_
  have hb22 := m.row 0 rfl
  refine ⟨_, hb22.at rfl, ?_⟩
  rw [str_crit, ofL_app, ofL_dec]
  refine ⟨szle (by simp [wCrit]; omega), cnd_prop.2 ⟨fun he => ?_, fun he => ?_⟩⟩
  ·have he : c = critC t.crit[i].name := he
   intro w24
   have m : Mem u w24 [(u.heap.size, encC t.crit[i])] := m.drew
   clear_value w24
   have hb24 := m.row 0 rfl
   have R : ∀ w', Fr F0 w24 w' -> Row w' u.heap.size (encC t.crit[i]) := fun w' hw => hw.row hb24 fun h => h
   have k1 := itoa_len' n2
   have k2 := itoa_len' n3
   have k3 := itoa_len' n4
   have e : contT t c = critT t.crit[i] := by
    unfold contT
    rw [h0, find_hit (p := fun x => decide (critC x.name = c)) hil (decide_eq_true he.symm) fun j hj => decide_eq_false (hb j (by omega) hj)]
   rw [e] at hK
   unfold critT at hK
   refine ⟨fun w' => Fr F0 w24 w', Fr.refl, t.crit[i].kind, fun w' hw => (R w' hw).at rfl, t.crit[i].low, fun w' hw => (R w' hw).at rfl, t.crit[i].high, fun w' hw => (R w' hw).at rfl, ?_⟩
   refine rdecimal_spec n2 fun w29 f29 => ⟨f29, ?_⟩
   simp -zeta only [e32, ofL_app]
   refine ⟨szle (by simp only [List.length_append, List.length_cons, List.length_nil]; omega), ?_⟩
   refine rdecimal_spec n3 fun w31 f31 => ⟨f29.t f31, ?_⟩
   simp -zeta only [e32, ofL_app]
   refine ⟨szle (by simp only [List.length_append, List.length_cons, List.length_nil]; omega), szle (by simp only [List.length_append, List.length_cons, List.length_nil]; omega), ?_⟩
   refine rdecimal_spec n4 fun w33 f33 => ⟨f29.t (f31.t f33), ?_⟩
   simp -zeta only [eless, ofL_app]
   have F33 := hf.t (m.1.t (f29.t (f31.t f33)))
   refine ⟨szle (by simp only [List.length_append, List.length_cons, List.length_nil]; omega), t.crit[i].less, (R w33 (f29.t (f31.t f33))).at rfl, cnd_iff.2 ⟨fun hls => ?_, fun hls => ?_⟩⟩
   ·rw [hls, if_pos rfl] at hK
    exact ⟨szle (by simp only [List.length_append, List.length_cons, List.length_nil]; omega), hK w33 F33⟩
   ·rw [hls, if_neg (by decide), List.append_nil] at hK
    exact hK w33 F33
  ·have he : c ≠ critC t.crit[i].name := he
   refine ⟨inR64 (by omega) (by omega), ⟨⟨rfl, rfl, trivial⟩, i + 1, by omega, by omega, hf.t m.1, fun j hjl hj => ?_⟩, by dsimp only; omega⟩
   rcases Nat.lt_or_ge j i with h | h
   ·exact hb j hjl h
   ·have : j = i := by omega
    subst this
    exact Ne.symm he
 ·have : i = t.crit.length := by omega
  subst this
  exact rCont_l2 hx hF ht hf h0 (find_no fun j hj => decide_eq_false (hb j hj hj)) hK
theorem rContent_spec (hx : TP w x t) (hF : Fit t) (hK : ∀ w', Fr F0 w w' -> K (ofL (contT t c)) w') : z0j_sh x (ofL c) K w := by
 have h20 := hF.lots
 have e1 : (x.f1.l : Int) = (t.lots.length : Int) := by rw [hx.lots.len]
 refine ⟨?_⟩
 unfold z0j_sd
 intro w1
 have m : Mem w w1 [(w.heap.size, x.cs)] := Mem.nil.allocL
 clear_value w1
 have ht := m.row 0 rfl
 have hx := hx.fr m.1
 have hK : ∀ w', Fr F0 w1 w' -> K (ofL (contT t c)) w' := fun w' hf => hK w' (m.1.t hf)
 refine ⟨⟨fun i u => ∃ i' : Nat, i = i' /\ i' <= t.lots.length /\ Fr F0 w1 u /\ ∀ j (hj : j < t.lots.length), j < i' -> lotC t.lots[j].1 ≠ c, fun i _ => t.lots.length - i.toNat, ⟨0, rfl, by omega, Fr.refl, fun j _ h => by omega⟩, ?_⟩⟩
 rintro i u ⟨i, rfl, hi, hf, hb⟩
 unfold z0j_b0
 have hr := hf.row ht fun h => h
 refine ⟨x.f1, hr.at (i := 1) rfl, ?_⟩
 rw [e1]
 refine cnd_prop.2 ⟨fun hlt => ?_, fun hge => ?_⟩
 ·have hil : i < t.lots.length := by omega
  obtain ⟨n1, n2⟩ := hF.lot _ (List.getElem_mem hil)
  refine ⟨x.f1, hr.at (i := 1) rfl, Vw.go encL_length (by decide) (hx.lots.fr hf) i rfl hil fun _ hc => ⟨_, hc 0 _ rfl, ?_⟩⟩
  refine rLot_spec n1 fun w8 f8 => ?_
  have F8 := hf.t f8
  rw [ofL_dec]
  refine cnd_prop.2 ⟨fun he => ?_, fun he => ?_⟩
  ·refine ⟨x.f1, (F8.row ht fun h => h).at (i := 1) rfl, Vw.go encL_length (by decide) (hx.lots.fr F8) i rfl hil fun _ hc => ⟨_, hc 1 _ rfl, ?_⟩⟩
   refine rdecimal_spec n2 fun w11 f11 => ?_
   have e : contT t c = Lib.itoa t.lots[i].2 := by
    unfold contT
    rw [find_hit (p := fun l => decide (lotC l.1 = c)) hil (decide_eq_true he.symm) fun j hj => decide_eq_false (hb j (by omega) hj)]
   rw [e] at hK
   exact hK w11 (F8.t f11)
  ·refine ⟨inR64 (by omega) (by omega), ⟨⟨rfl, rfl, trivial⟩, i + 1, by omega, by omega, F8, fun j hjl hj => ?_⟩, by dsimp only; omega⟩
   rcases Nat.lt_or_ge j i with h | h
   ·exact hb j hjl h
   ·have : j = i := by omega
    subst this
    exact Ne.symm he
 ·have : i = t.lots.length := by omega
  subst this
  exact rCont_l1 hx hF ht hf (find_no fun j hj => decide_eq_false (hb j hj hj)) hK
end
end Go.Proofs.YtfkmpbpkahcogaaGreatDoor
namespace Go.Proofs.YtfkmpbpkahcogaaGreatDoor
open Go Pw Dp
section
variable {v w u w' : World} {x y : T43} {a b : Td} {b1 b2 : Nat} {c : B} {s s' all us : Sl} {A S U : List B}
theorem Fit.cl {t : Td} (h : Fit t) : (clauses t).length <= 2 ^ 22 := by
 have := clauses_len t
 have := h.lots; have := h.crit; have := h.reqs
 omega
theorem Fit.both {a b : Td} (h : Fit a) (h' : Fit b) : (both a b).length <= 2 ^ 23 := by
 have := foldB_len (clauses a) (clauses b)
 have := h.cl
 have := h'.cl
 unfold Dp.both
 omega
theorem rBoth_spec {K : Sl -> World -> Prop} (hx : TP w x a) (hy : TP w y b) (hA : Fit a) (hB : Fit b) (hK : ∀ w' r, Mk w 1 encB w' r (both a b) -> K r w') : z1h_sh x y K w := by
 have ha := hA.cl
 have hb := hB.cl
 refine ⟨?_⟩
 unfold z1h_sd
 intro w1
 have m : Mem w w1 [(w.heap.size, x.cs)] := Mem.nil.allocL
 clear_value w1
 intro w2
 have m : Mem w w2 [(w1.heap.size, y.cs), (w.heap.size, x.cs)] := m.allocL
 clear_value w2
 refine T43.ld_row (m.row 0 rfl) (rClauses_spec (hy.fr m.1) hB fun w3 r hm => ?_)
 have m3 := m.fr hm.fr0
 refine T43.ld_row (m3.row 1 rfl) (rClauses_spec (hx.fr m3.1) hA fun w4 q hq => ?_)
 have hel := hq.len
 have hr4 : Mk w2 1 encB w4 r (clauses b) := hm.fr hq.fr0
 have hqn : ∀ b, inB q b -> w3.heap.size <= b := hq.nw
 have hrn : ∀ c, inB r c -> c < w3.heap.size := fun c hc => hm.ow.lt' hc
 refine ⟨⟨fun out i u => ∃ i' : Nat, i = i' /\ i' <= (clauses a).length /\ NW w2 u q out (clauses a) (((clauses a).take i').foldl addB (clauses b)), fun _ i _ => (clauses a).length - i.toNat, ⟨0, rfl, by omega, by simpa using hr4, hq.ow.vw, fun _ c hc => ⟨hq.ow.lt' hc, fun h => by have := hrn c h; have := hqn c hc; omega⟩⟩, ?_⟩⟩
 rintro out i u ⟨i, rfl, hi, hu⟩
 unfold z1h_b0
 have hlen := foldB_len ((clauses a).take i) (clauses b)
 simp only [List.length_take] at hlen
 refine cnd_prop.2 ⟨fun hlt => ?_, fun hge => ?_⟩
 ·have hil : i < (clauses a).length := by omega
  have et : (clauses a).take (i + 1) = (clauses a).take i ++ [(clauses a)[i]] := by rw [List.take_add_one, List.getElem?_eq_getElem hil]; rfl
  refine ldB hu.nv i rfl hil (rhas_spec hu.ow.vw (by omega) (cnd_iff.2 ⟨fun h => ?_, fun h => ?_⟩))
  ·have hn : (clauses a)[i] ∉ ((clauses a).take i).foldl addB (clauses b) := by simpa using h
   refine ldB hu.nv i rfl hil (hu.push (a := (clauses a)[i]) rfl (by omega) fun s6 w7 h7 => ⟨inR64 (by omega) (by omega), ⟨⟨rfl, trivial⟩, i + 1, by omega, by omega, ?_⟩, by dsimp only; omega⟩)
   rw [et, List.foldl_append]
   rw [← addB_new hn] at h7
   exact h7
  ·have hn : (clauses a)[i] ∈ ((clauses a).take i).foldl addB (clauses b) := by simpa using h
   refine ⟨inR64 (by omega) (by omega), ⟨⟨rfl, trivial⟩, i + 1, by omega, by omega, ?_⟩, by dsimp only; omega⟩
   rw [et, List.foldl_append]
   rw [← addB_in hn] at hu
   exact hu
 ·have : i = (clauses a).length := by omega
  subst this
  rw [List.take_length] at hu
  exact hK u out ⟨m.1.t hu.ow.fr0, hu.ow.ow, fun b hb => Nat.le_trans m.1.1 (hu.ow.nw b hb)⟩
theorem rdiffers_spec {K : Bool -> World -> Prop} (hx : TP w x a) (hy : TP w y b) (hA : Fit a) (hB : Fit b) (hK : ∀ w', Fr F0 w w' -> K (isCh a b c) w') : z0m_sh x y (ofL c) K w := by
 have ha := hA.cl
 have hb := hB.cl
 refine ⟨?_⟩
 unfold z0m_sd
 intro w1
 have m : Mem w w1 [(w.heap.size, x.cs)] := Mem.nil.allocL
 clear_value w1
 intro w2
 have m : Mem w w2 [(w1.heap.size, y.cs), (w.heap.size, x.cs)] := m.allocL
 clear_value w2
 refine T43.ld_row (m.row 1 rfl) (rClauses_spec (hx.fr m.1) hA fun w3 r hm => rhas_spec hm.vw (by omega) ?_)
 have m3 := m.fr hm.fr0
 refine T43.ld_row (m3.row 0 rfl) (rClauses_spec (hy.fr m3.1) hB fun w4 q hq => rhas_spec hq.vw (by omega) ?_)
 have m4 := m3.fr hq.fr0
 have e : isCh a b c = !(decide (c ∈ clauses a) && (decide (c ∈ clauses b) && eqc a b c)) := rfl
 refine cnd_iff.2 ⟨fun h => ?_, fun h1 => cnd_iff.2 ⟨fun h => ?_, fun h2 => ?_⟩⟩
 ·have : isCh a b c = true := by
   have : decide (c ∈ clauses a) = false := by simpa using h
   rw [e, this]
   rfl
  rw [← this]
  exact hK w4 m4.1
 ·have : isCh a b c = true := by
   have : decide (c ∈ clauses b) = false := by simpa using h
   rw [e, this]
   simp
  rw [← this]
  exact hK w4 m4.1
 have h1 : c ∈ clauses a := by simpa using h1
 have h2 : c ∈ clauses b := by simpa using h2
 have e : isCh a b c = !eqc a b c := by rw [e, decide_eq_true h1, decide_eq_true h2]; rfl
 rw [e] at hK
 rw [show decide (ofL c = str [102, 111, 114, 109, 117, 108, 97]) = decide (c = wForm) from ofL_dec c wForm]
 refine cnd_prop.2 ⟨fun h => ?_, fun h => ?_⟩
 ·subst h
  have rx := m4.row 1 rfl
  have ry := m4.row 0 rfl
  refine ⟨_, rx.at (i := 6) rfl, _, rx.at (i := 7) rfl, _, rx.at (i := 8) rfl, _, rx.at (i := 9) rfl, x.f10, rx.at (i := 10) rfl, _, ry.at (i := 6) rfl, _, ry.at (i := 7) rfl, _, ry.at (i := 8) rfl, _, ry.at (i := 9) rfl, y.f10, ry.at (i := 10) rfl, ?_⟩
  exact rSame_spec a.fm (c := ⟨x.f6, x.f7, x.f8, x.f9, x.f10⟩) (d := ⟨y.f6, y.f7, y.f8, y.f9, y.f10⟩) (hx.fr m4.1).fm (hy.fr m4.1).fm fun w' f => hK w' (m4.1.t f)
 ·intro w25
  have f25 : Fr F0 w4 w25 := Fr.drew
  clear_value w25
  have m5 := m4.fr f25
  refine ⟨fun u => Fr F0 w25 u, Fr.refl, T43.lds_row (fun u hu => (m5.fr hu).row 1 rfl) (T43.lds_row (fun u hu => (m5.fr hu).row 0 rfl) ?_)⟩
  refine rContent_spec (hx.fr m5.1) hA fun w29 f29 => ⟨f29, rContent_spec (hy.fr (m5.1.t f29)) hB fun w31 f31 => ⟨f29.t f31, ?_⟩⟩
  rw [ofL_dec, cont_eq hA hB h1 h2 h]
  exact hK w31 (m5.1.t (f29.t f31))
theorem rChanged_spec {K : Sl -> World -> Prop} (hx : TP w x a) (hy : TP w y b) (hA : Fit a) (hB : Fit b) (hK : ∀ w' r, Mk w 1 encB w' r (changed a b) -> K r w') : z0h_sh x y K w := by
 have hbl := hA.both hB
 refine ⟨?_⟩
 unfold z0h_sd
 intro w1
 have m : Mem w w1 [(w.heap.size, x.cs)] := Mem.nil.allocL
 clear_value w1
 intro w2
 have m : Mem w w2 [(w1.heap.size, y.cs), (w.heap.size, x.cs)] := m.allocL
 clear_value w2
 refine T43.ld_row (m.row 1 rfl) (T43.ld_row (m.row 0 rfl) (rBoth_spec (hx.fr m.1) (hy.fr m.1) hA hB fun v all hall => ?_))
 have m3 := m.fr hall.fr0
 have el := hall.len
 refine ⟨⟨fun out i u => ∃ i' : Nat, i = i' /\ i' <= (both a b).length /\ Mk v 1 encB u out (((both a b).take i').filter (isCh a b)), fun _ i _ => (both a b).length - i.toNat, ⟨0, rfl, by omega, Mk.nil Fr.refl⟩, ?_⟩⟩
 rintro out i u ⟨i, rfl, hi, hu⟩
 unfold z0h_b0
 have hlen := hu.len
 have hlen2 : out.l <= i := by rw [hlen]; exact Nat.le_trans (List.length_filter_le _ _) (by simp; omega)
 refine cnd_prop.2 ⟨fun hlt => ?_, fun hge => ?_⟩
 ·have hil : i < (both a b).length := by omega
  have et : (both a b).take (i + 1) = (both a b).take i ++ [(both a b)[i]] := by rw [List.take_add_one, List.getElem?_eq_getElem hil]; rfl
  intro w7
  have f7 : Fr F0 u w7 := Fr.drew
  clear_value w7
  have hu7 := hu.fr f7
  have m7 := m3.fr hu7.fr0
  refine ⟨fun e => Fr F0 w7 e, Fr.refl, T43.lds_row (fun e he => (m7.fr he).row 1 rfl) (T43.lds_row (fun e he => (m7.fr he).row 0 rfl) (Vw.goS encB_length (by decide) Fr.refl (fun e he => hall.vw.fr (hu7.fr0.t he)) i rfl hil fun _ hc => ⟨_, hc 0 _ rfl, ?_⟩))⟩
  refine rdiffers_spec (hx.fr m7.1) (hy.fr m7.1) hA hB fun w13 f13 => cnd_iff.2 ⟨fun h => ?_, fun h => ?_⟩
  ·have hu13 := hu7.fr f13
   refine ldB (hall.vw.fr hu13.fr0) i rfl hil ?_
   refine hu13.push (a := (both a b)[i]) rfl rfl encB_ok rfl (by omega) (by omega) fun s6 w7 h7 _ => ⟨inR64 (by omega) (by omega), ⟨⟨rfl, rfl, rfl, trivial⟩, i + 1, by omega, by omega, ?_⟩, by dsimp only; omega⟩
   rw [et, List.filter_append, List.filter_cons, if_pos h]
   exact h7
  ·refine ⟨inR64 (by omega) (by omega), ⟨⟨rfl, rfl, rfl, trivial⟩, i + 1, by omega, by omega, ?_⟩, by dsimp only; omega⟩
   rw [et, List.filter_append, List.filter_cons, if_neg (by rw [h]; decide), List.filter_nil, List.append_nil]
   exact hu7.fr f13
 ·have : i = (both a b).length := by omega
  subst this
  rw [List.take_length] at hu
  exact hK u out ⟨m3.1.t hu.fr0, hu.ow, fun b hb => Nat.le_trans m3.1.1 (hu.nw b hb)⟩
theorem rAff_l2 {o n : Addr} {there more : Bool} {k : Nat} {N1 : Addr -> Addr -> Sl -> Sl -> Bool -> Int -> World -> Prop} {N0 : Addr -> Addr -> Sl -> Sl -> Bool -> World -> Prop} {K : Sl -> World -> Prop}
  (hal : Vw 1 encB v all A) (hm : Mk v 1 encB w s S) (hus : Vw 1 encB w us U) (hk : k < A.length) (hc : there = decide (A[k] ∈ S)) (hU : U.length <= 2 ^ 40) (hS : S.length <= 2 ^ 40)
  (hN : ∀ s' u' more', Mk v 1 encB u' s' (if U.any (fun d => decide (d ∈ S)) then addB S A[k] else S) -> (more' = (more || decide (s'.l ≠ S.length))) -> inR .i64 ((k : Int) + 1) /\ N1 o n all s' more' ((k : Int) + 1) u') : z0b_l2 o n all s more k there us 0 N1 N0 K w := by
 have el := hus.len
 refine ⟨⟨fun s' more' there' j u => ∃ j' : Nat, j = j' /\ j' <= U.length /\ ((there' = false /\ more' = more /\ s' = s /\ A[k] ∉ S /\ Fr F0 w u /\ ∀ d ∈ U.take j', d ∉ S) \/ (there' = true /\ Mk v 1 encB u s' (if U.any (fun d => decide (d ∈ S)) then addB S A[k] else S) /\ more' = (more || decide (s'.l ≠ S.length)))), fun _ _ _ j _ => U.length - j.toNat, ⟨0, rfl, by omega, ?_⟩, ?_⟩⟩
 ·cases there with
  | false => exact .inl ⟨rfl, rfl, rfl, of_decide_eq_false hc.symm, Fr.refl, fun d hd => by simp at hd⟩
  | true =>
   have hin : A[k] ∈ S := of_decide_eq_true hc.symm
   have e : (if U.any (fun d => decide (d ∈ S)) then addB S A[k] else S) = S := by rw [addB_in hin]; split <;> rfl
   rw [e]
   exact .inr ⟨rfl, hm, by simp [hm.len]⟩
 rintro s' more' there' j u ⟨j, rfl, hj, hI⟩
 unfold z0b_b2
 refine cnd_prop.2 ⟨fun hlt => ?_, fun hge => ?_⟩
 ·have hjl : j < U.length := by omega
  rcases hI with ⟨rfl, rfl, rfl, hnin, hf, hno⟩ | ⟨rfl, h1, h2⟩
  ·show cnd true _ _
   rw [cnd_true]
   have hmu := hm.fr hf
   refine ldB (hus.fr hf) j rfl hjl (rhas_spec hmu.vw (by omega) (cnd_iff.2 ⟨fun h => ?_, fun h => ?_⟩))
   ·have h : U[j] ∈ S := by simpa using h
    refine ldB (hal.fr hmu.fr0) k rfl hk ?_
    refine hmu.push (a := A[k]) rfl rfl encB_ok rfl (by omega) (by omega) fun s6 w7 h7 _ => ⟨inR64 (by omega) (by omega), ⟨⟨rfl, rfl, rfl, rfl, rfl, trivial⟩, j + 1, by omega, by omega, .inr ⟨rfl, ?_, ?_⟩⟩, by dsimp only; omega⟩
    ·have : U.any (fun d => decide (d ∈ S)) = true := List.any_eq_true.2 ⟨_, List.getElem_mem hjl, decide_eq_true h⟩
     rw [this, if_pos rfl, addB_new hnin]
     exact h7
    ·have := h7.len
     simp only [List.length_append, List.length_cons, List.length_nil] at this
     have : s6.l ≠ S.length := by omega
     simp [this]
   ·have h : U[j] ∉ S := by simpa using h
    refine ⟨inR64 (by omega) (by omega), ⟨⟨rfl, rfl, rfl, rfl, rfl, trivial⟩, j + 1, by omega, by omega, .inl ⟨rfl, rfl, rfl, hnin, hf, fun d hd => ?_⟩⟩, by dsimp only; omega⟩
    rw [List.take_add_one, List.getElem?_eq_getElem hjl, List.mem_append] at hd
    rcases hd with hd | hd
    ·exact hno d hd
    ·have : d = U[j] := by simpa using hd
     rw [this]
     exact h
  ·exact hN s' u more' h1 h2
 ·rcases hI with ⟨rfl, rfl, rfl, hnin, hf, hno⟩ | ⟨rfl, h1, h2⟩
  ·have : j = U.length := by omega
   subst this
   rw [List.take_length] at hno
   have hz : U.any (fun d => decide (d ∈ S)) = false := List.any_eq_false.2 fun d hd => by simpa using hno d hd
   refine hN _ u _ ?_ (by simp [hm.len])
   rw [hz, if_neg (by decide)]
   exact hm.fr hf
  ·exact hN s' u more' h1 h2
theorem rAff_l1 {N0 : Addr -> Addr -> Sl -> Sl -> Bool -> World -> Prop} {K : Sl -> World -> Prop} (hx : TP v x a) (hy : TP v y b) (hA : Fit a) (hB : Fit b) (r1 : Row v b1 x.cs) (r2 : Row v b2 y.cs) (hal : Vw 1 encB v all (both a b)) (hm : Mk v 1 encB w s S) (hn : S.Nodup) (hsub : ∀ c ∈ S, c ∈ both a b)
  (hN : ∀ s' u' more', Mk v 1 encB u' s' (roundA a b S) -> more' = decide (s'.l ≠ S.length) -> N0 ⟨b1, 0, none⟩ ⟨b2, 0, none⟩ all s' more' u') : z0b_l1 ⟨b1, 0, none⟩ ⟨b2, 0, none⟩ all s false 0 N0 K w := by
 have hbl := hA.both hB
 have ha := hA.cl
 have hb := hB.cl
 have el := hal.len
 refine ⟨⟨fun s' more' k u => ∃ k' : Nat, k = k' /\ k' <= (both a b).length /\ Mk v 1 encB u s' (stepsA a b S ((both a b).take k')) /\ more' = decide (s'.l ≠ S.length), fun _ _ k _ => (both a b).length - k.toNat, ⟨0, rfl, by omega, hm, by simp [hm.len]⟩, ?_⟩⟩
 rintro s' more' k u ⟨k, rfl, hk, hu, hmo⟩
 unfold z0b_b1
 refine cnd_prop.2 ⟨fun hlt => ?_, fun hge => ?_⟩
 ·have hkl : k < (both a b).length := by omega
  have et : (both a b).take (k + 1) = (both a b).take k ++ [(both a b)[k]] := by rw [List.take_add_one, List.getElem?_eq_getElem hkl]; rfl
  have hnd : (stepsA a b S ((both a b).take k)).Nodup := nodup_steps hn
  have hsb : ∀ c ∈ stepsA a b S ((both a b).take k), c ∈ both a b := by
   have : ∀ {l S : List B}, (∀ c ∈ S, c ∈ both a b) -> (∀ c ∈ l, c ∈ both a b) -> ∀ c ∈ stepsA a b S l, c ∈ both a b := by
    intro l
    induction l with
    | nil => exact fun h _ => h
    | cons z l ih =>
     intro S h h' c hc
     refine ih (S := stepA a b S z) (fun d hd => ?_) (fun d hd => h' d (List.mem_cons_of_mem _ hd)) c hc
     unfold stepA at hd
     split at hd
     ·rcases mem_addB.1 hd with hd | rfl
      ·exact h d hd
      ·exact h' _ (List.mem_cons_self ..)
     ·exact h d hd
   exact this hsub fun c hc => List.mem_of_mem_take hc
  have hSl := nodup_sub_len hnd hsb
  have hS0 := steps_len (a := a) (b := b) (l := (both a b).take k) (S := S)
  generalize hS1 : stepsA a b S ((both a b).take k) = S1 at *
  have hlu := hu.len
  refine ldB (hal.fr hu.fr0) k rfl hkl (rhas_spec hu.vw (by omega) ?_)
  intro w15
  have f15 : Fr F0 u w15 := Fr.drew
  clear_value w15
  have hu15 := hu.fr f15
  have F15 := hu15.fr0
  have R1 : ∀ e, Fr F0 w15 e -> Row e b1 x.cs := fun e he => (F15.t he).row r1 fun h => h
  have R2 : ∀ e, Fr F0 w15 e -> Row e b2 y.cs := fun e he => (F15.t he).row r2 fun h => h
  refine ⟨fun e => Fr F0 w15 e, Fr.refl, T43.lds_row R1 (Vw.goS encB_length (by decide) Fr.refl (fun e he => hal.fr (F15.t he)) k rfl hkl fun _ hc => ⟨_, hc 0 _ rfl, T43.lds_row R2 (Vw.goS encB_length (by decide) Fr.refl (fun e he => hal.fr (F15.t he)) k rfl hkl fun _ hc => ⟨_, hc 0 _ rfl, ?_⟩)⟩)⟩
  have lu : ∀ (t : Td) c, (uses t c).length <= (clauses t).length := uses_len
  have la := lu a (both a b)[k]
  have lb := lu b (both a b)[k]
  refine rUses_spec (hx.fr F15) hA fun w23 q hq => ⟨hq.fr0, rUses_spec (hy.fr (F15.t hq.fr0)) hB fun w25 r hr => ⟨hq.fr0.t hr.fr0, ?_⟩⟩
  refine (hq.fr hr.fr0).app hr.vw encB_ok rfl (by omega) (by omega) fun s27 w28 h28 _ => ⟨h28.fr0, ?_⟩
  refine rAff_l2 (more := more') (hal) (hu15.fr h28.fr0) h28.vw hkl rfl (by rw [List.length_append]; omega) (by omega) fun s6 u6 more6 h6 hmore => ⟨inR64 (by omega) (by omega), ⟨⟨rfl, rfl, rfl, trivial⟩, k + 1, by omega, by omega, ?_, ?_⟩, by dsimp only; omega⟩
  ·rw [et]
   have e : stepsA a b S ((both a b).take k ++ [(both a b)[k]]) = stepA a b (stepsA a b S ((both a b).take k)) (both a b)[k] := by
    unfold stepsA
    rw [List.foldl_append]
    rfl
   rw [e, hS1]
   unfold stepA hitB
   rw [← List.any_append]
   exact h6
  ·have h6l := h6.len
   have hge : S1.length <= s6.l := by
    rw [h6l]
    split
    ·unfold addB
     split
     ·exact Nat.le_refl _
     ·simp
    ·exact Nat.le_refl _
   rw [hmore, hmo, Bool.eq_iff_iff]
   simp only [Bool.or_eq_true, decide_eq_true_eq]
   omega
 ·have : k = (both a b).length := by omega
  subst this
  rw [List.take_length] at hu
  exact hN s' u more' hu hmo
theorem rUses_l13_like {K : Sl -> World -> Prop} {m : World} (ha : Vw 1 encB v all A) (hm : Mk v 1 encB m s S) (hl : A.length <= 2 ^ 40) (hl' : S.length <= 2 ^ 41) (hK : ∀ w' s', Mk v 1 encB w' s' (A.filter fun o => decide (o ∈ S)) -> K s' w') : z0b_l3 all s ⟨none, 0, 0⟩ 0 K m := by
 have ha := ha.fr hm.fr0
 have hw := hm.vw
 have hK : ∀ w' s', Mk m 1 encB w' s' (A.filter fun o => decide (o ∈ S)) -> K s' w' := fun w' s' h => hK w' s' ⟨hm.fr0.t h.fr0, h.ow, fun b hb => Nat.le_trans hm.fr0.1 (h.nw b hb)⟩
 have el := ha.len
 refine ⟨⟨fun out i u => ∃ i' : Nat, i = i' /\ i' <= A.length /\ Mk m 1 encB u out ((A.take i').filter fun o => decide (o ∈ S)), fun _ i _ => A.length - i.toNat, ⟨0, rfl, by omega, Mk.nil Fr.refl⟩, ?_⟩⟩
 rintro out i u ⟨i, rfl, hi, hu⟩
 unfold z0b_b3
 have hlen := hu.len
 have hlen2 : out.l <= i := by rw [hlen]; exact Nat.le_trans (List.length_filter_le _ _) (by simp; omega)
 have hv := ha.fr hu.fr0
 refine cnd_prop.2 ⟨fun hlt => ?_, fun hge => ?_⟩
 ·have hil : i < A.length := by omega
  have et : A.take (i + 1) = A.take i ++ [A[i]] := by rw [List.take_add_one, List.getElem?_eq_getElem hil]; rfl
  refine ldB hv i rfl hil (rhas_spec (hw.fr hu.fr0) (by omega) (cnd_iff.2 ⟨fun h => ?_, fun h => ?_⟩))
  ·refine ldB hv i rfl hil ?_
   refine hu.push (a := A[i]) rfl rfl encB_ok rfl (by omega) (by omega) fun s6 w7 h7 _ => ⟨inR64 (by omega) (by omega), ⟨⟨rfl, rfl, trivial⟩, i + 1, by omega, by omega, ?_⟩, by dsimp only; omega⟩
   rw [et, List.filter_append, List.filter_cons, if_pos h]
   exact h7
  ·refine ⟨inR64 (by omega) (by omega), ⟨⟨rfl, rfl, trivial⟩, i + 1, by omega, by omega, ?_⟩, by dsimp only; omega⟩
   rw [et, List.filter_append, List.filter_cons, if_neg (by rw [h]; decide), List.filter_nil, List.append_nil]
   exact hu
 ·have : i = A.length := by omega
  subst this
  rw [List.take_length] at hu
  exact hK u out hu
theorem rAffected_spec {K : Sl -> World -> Prop} (hx : TP w x a) (hy : TP w y b) (hA : Fit a) (hB : Fit b) (hK : ∀ w' r, Mk w 1 encB w' r (affected a b) -> K r w') : z0b_sh x y K w := by
 have hbl := hA.both hB
 refine ⟨?_⟩
 unfold z0b_sd
 intro w1
 have m : Mem w w1 [(w.heap.size, x.cs)] := Mem.nil.allocL
 clear_value w1
 intro w2
 have m : Mem w w2 [(w1.heap.size, y.cs), (w.heap.size, x.cs)] := m.allocL
 clear_value w2
 refine T43.ld_row (m.row 1 rfl) (T43.ld_row (m.row 0 rfl) (rBoth_spec (hx.fr m.1) (hy.fr m.1) hA hB fun v all hall => ?_))
 have m3 := m.fr hall.fr0
 have el := hall.len
 refine T43.ld_row (m3.row 1 rfl) (T43.ld_row (m3.row 0 rfl) (rChanged_spec (hx.fr m3.1) (hy.fr m3.1) hA hB fun w9 r hr => ?_))
 refine ⟨⟨fun s' more' u => ∃ S : List B, Mk v 1 encB u s' S /\ S.Nodup /\ (∀ c ∈ changed a b, c ∈ S) /\ (∀ c ∈ S, Aff a b c) /\ (more' = false -> ClosedA a b S), fun s' more' _ => 2 * ((both a b).length + 1 - s'.l) + more'.toNat, ⟨_, hr, (nodup_both a b).filter _, fun c h => h, fun c h => .base h, fun h => by cases h⟩, ?_⟩⟩
 rintro s' more' u ⟨S, hu, hn, h1, h2, h3⟩
 have hsub : ∀ c ∈ S, c ∈ both a b := fun c hc => aff_both (h2 c hc)
 have hSl := nodup_sub_len hn hsub
 have hlu := hu.len
 unfold z0b_b0
 refine cnd_iff.2 ⟨fun hm => ?_, fun hm => ?_⟩
 ·refine rAff_l1 (hx.fr m3.1) (hy.fr m3.1) hA hB (m3.row 1 rfl) (m3.row 0 rfl) hall.vw hu hn hsub fun s6 u6 more6 h6 hmore => ⟨⟨⟨rfl, rfl, rfl, trivial⟩, _, h6, nodup_steps hn, fun c hc => steps_sub (h1 c hc), steps_aff h2 fun c hc => hc, fun hf => ?_⟩, ?_⟩
  ·have h6l := h6.len
   have : s6.l = S.length := by
    rw [hmore] at hf
    have := of_decide_eq_false hf
    omega
   have hcl := round_closed (a := a) (b := b) (S := S) (by omega)
   have e : roundA a b S = S := closed_steps hcl fun c hc => hc
   exact e.symm ▸ hcl
  ·have h6l := h6.len
   have hge : S.length <= s6.l := by rw [h6l]; exact steps_len
   have hle : s6.l <= (both a b).length := by
    rw [h6l]
    exact nodup_sub_len (nodup_steps hn) fun c hc => aff_both (steps_aff h2 (fun c hc => hc) c hc)
   dsimp only
   rw [hm, hmore]
   by_cases h : s6.l = S.length
   ·rw [decide_eq_false (by omega)]
    simp only [Bool.toNat_false, Bool.toNat_true]
    omega
   ·rw [decide_eq_true (by omega)]
    simp only [Bool.toNat_true]
    omega
 ·refine rUses_l13_like hall.vw hu (by omega) (by omega) fun w' s6 h6 => hK w' s6 ?_
  rw [← ref_done h1 h2 (h3 hm)]
  exact ⟨m3.1.t h6.fr0, h6.ow, fun b hb => Nat.le_trans m3.1.1 (h6.nw b hb)⟩
theorem hits_words {lots : List Int} {c : B} (h : c = wName \/ c = wTimes \/ c = wMost \/ c = wCombos \/ c = wBudget) : hitsB lots c = false := by
 have : ∀ w ∈ [wName, wTimes, wMost, wCombos, wBudget], wLot.isPrefixOf w = false := by decide
 have hm : c ∈ [wName, wTimes, wMost, wCombos, wBudget] := by simpa using h
 unfold hitsB
 rw [this c hm, decide_eq_true hm]
 rfl
theorem pre_lot {c : B} (h : ¬ c.length < 4) : wLot.isPrefixOf c = decide (c.take 4 = wLot) := by
 match c, h with
 | [], h => exact absurd (by simp) h
 | [_], h => exact absurd (by simp) h
 | [_, _], h => exact absurd (by simp) h
 | [_, _, _], h => exact absurd (by simp) h
 | a :: b :: d :: e :: r, _ =>
  rw [Bool.eq_iff_iff, List.isPrefixOf_iff_prefix, decide_eq_true_eq]
  constructor
  ·rintro ⟨t, ht⟩
   rw [← ht]
   rfl
  ·intro h
   exact ⟨r, by rw [← h]; rfl⟩
theorem pre_short {c : B} (h : c.length < 4) : wLot.isPrefixOf c = false := by
 rw [Bool.eq_false_iff]
 intro hp
 obtain ⟨t, ht⟩ := List.isPrefixOf_iff_prefix.1 hp
 rw [← ht] at h
 simp [wLot] at h
 omega
theorem rTouches_spec {lots : Sl} {L : List Int} {K : Bool -> World -> Prop} (hx : TP w x a) (hy : TP w y b) (hA : Fit a) (hB : Fit b) (hv : Vw 1 encI w lots L) (hl : L.length < 2 ^ 62) (hi : ∀ i ∈ L, I64 i) (hK : ∀ w', Fr F0 w w' -> K (touches a b L) w') : z0k_sh x y lots K w := by
 have hbl := hA.both hB
 have hal : (affected a b).length <= (both a b).length := List.length_filter_le _ _
 have ev := hv.len
 refine ⟨?_⟩
 unfold z0k_sd
 intro w1
 have m : Mem w w1 [(w.heap.size, x.cs)] := Mem.nil.allocL
 clear_value w1
 intro w2
 have m : Mem w w2 [(w1.heap.size, y.cs), (w.heap.size, x.cs)] := m.allocL
 clear_value w2
 refine T43.ld_row (m.row 1 rfl) (T43.ld_row (m.row 0 rfl) (rAffected_spec (hx.fr m.1) (hy.fr m.1) hA hB fun v r hr => ?_))
 have m3 := m.fr hr.fr0
 have el := hr.len
 have et : touches a b L = (affected a b).any (hitsB L) := rfl
 refine ⟨⟨fun k u => ∃ k' : Nat, k = k' /\ k' <= (affected a b).length /\ Fr F0 v u /\ ((affected a b).take k').any (hitsB L) = false, fun k _ => (affected a b).length - k.toNat, ⟨0, rfl, by omega, Fr.refl, by simp⟩, ?_⟩⟩
 rintro k u ⟨k, rfl, hk, hf, hb⟩
 unfold z0k_b0
 refine cnd_prop.2 ⟨fun hlt => ?_, fun hge => ?_⟩
 ·have hkl : k < (affected a b).length := by omega
  have yes : ∀ {u' : World}, Fr F0 v u' -> hitsB L (affected a b)[k] = true -> K true u' := fun hf' hh => by
   have := hK _ (m3.1.t hf')
   rw [et, List.any_eq_true.2 ⟨_, List.getElem_mem hkl, hh⟩] at this
   exact this
  have no : hitsB L (affected a b)[k] = false -> ((affected a b).take (k + 1)).any (hitsB L) = false := fun hh => by
   rw [List.take_add_one, List.getElem?_eq_getElem hkl, List.any_append, hb]
   simp [hh]
  have rd : ∀ {J : ByteArray -> Prop}, J (ofL (affected a b)[k]) -> nz r.p fun a => (0 <= (k : Int) /\ (k : Int) < (r.l : Nat)) /\ ∃ x : ByteArray, u.cell? (a.add ((k : Int).toNat * 1)) = some (Value.string x) /\ J x := fun hJ => ldB (hr.vw.fr hf) k rfl hkl hJ
  have nx : ∀ {u' : World}, Fr F0 v u' -> hitsB L (affected a b)[k] = false -> inR .i64 ((k : Int) + 1) /\ ((lots = lots /\ r = r /\ True) /\ ∃ k' : Nat, (k : Int) + 1 = k' /\ k' <= (affected a b).length /\ Fr F0 v u' /\ ((affected a b).take k').any (hitsB L) = false) /\ (affected a b).length - ((k : Int) + 1).toNat < (affected a b).length - ((k : Int)).toNat := fun hf' hh =>
   ⟨inR64 (by omega) (by omega), ⟨⟨rfl, rfl, trivial⟩, k + 1, by omega, by omega, hf', no hh⟩, by omega⟩
  generalize hc : (affected a b)[k] = c at *
  refine rd ?_
  rw [show decide (ofL c = str [110, 97, 109, 101]) = decide (c = wName) from ofL_dec c wName]
  refine cnd_prop.2 ⟨fun h => nx hf (hits_words (.inl h)), fun n1 => rd ?_⟩
  rw [show decide (ofL c = str [116, 105, 109, 101, 115]) = decide (c = wTimes) from ofL_dec c wTimes]
  refine cnd_prop.2 ⟨fun h => nx hf (hits_words (.inr (.inl h))), fun n2 => rd ?_⟩
  rw [show decide (ofL c = str [109, 111, 115, 116]) = decide (c = wMost) from ofL_dec c wMost]
  refine cnd_prop.2 ⟨fun h => nx hf (hits_words (.inr (.inr (.inl h)))), fun n3 => rd ?_⟩
  rw [show decide (ofL c = str [99, 111, 109, 98, 111, 115]) = decide (c = wCombos) from ofL_dec c wCombos]
  refine cnd_prop.2 ⟨fun h => nx hf (hits_words (.inr (.inr (.inr (.inl h))))), fun n4 => rd ?_⟩
  rw [show decide (ofL c = str [98, 117, 100, 103, 101, 116]) = decide (c = wBudget) from ofL_dec c wBudget]
  refine cnd_prop.2 ⟨fun h => nx hf (hits_words (.inr (.inr (.inr (.inr h))))), fun n5 => rd ?_⟩
  have nq : decide (c ∈ [wName, wTimes, wMost, wCombos, wBudget]) = false := decide_eq_false (by simp [n1, n2, n3, n4, n5])
  have hit : wLot.isPrefixOf c = false -> hitsB L c = true := fun h => by unfold hitsB; rw [h, nq]; rfl
  rw [ofL_sz]
  refine cnd_prop.2 ⟨fun h => yes hf (hit (pre_short (by omega))), fun h4 => rd ?_⟩
  rw [ofL_sz]
  refine ⟨⟨by omega, by omega, by omega⟩, ?_⟩
  have ex : (ofL c).extract 0 4 = ofL (c.take 4) := bl_inj (by rw [bl_ofL, bl_extract, bl_ofL]; simp)
  rw [ex, show decide (ofL (c.take 4) = str [108, 111, 116, 32]) = decide (c.take 4 = wLot) from ofL_dec _ wLot, ← pre_lot (by omega)]
  refine cnd_iff.2 ⟨fun h => yes hf (hit (by simpa using h)), fun h => ?_⟩
  have hp : wLot.isPrefixOf c = true := by simpa using h
  have eh : hitsB L c = L.any fun i => decide (lotC i = c) := by unfold hitsB; rw [if_pos hp]
  refine ⟨⟨fun j u => ∃ j' : Nat, j = j' /\ j' <= L.length /\ Fr F0 v u /\ (L.take j').any (fun i => decide (lotC i = c)) = false, fun j _ => L.length - j.toNat, ⟨0, rfl, by omega, hf, by simp⟩, ?_⟩⟩
  rintro j u1 ⟨j, rfl, hj, hf1, hb1⟩
  unfold z0k_b1
  refine cnd_prop.2 ⟨fun hlt => ?_, fun hge => ?_⟩
  ·have hjl : j < L.length := by omega
   intro w21
   have f21 : Fr F0 u1 w21 := Fr.drew
   clear_value w21
   have F21 := hf1.t f21
   refine ⟨fun e => Fr F0 w21 e, Fr.refl, Vw.goS encI_length (by decide) Fr.refl (fun e he => hv.fr (m3.1.t (F21.t he))) j rfl hjl fun _ hc' => ⟨_, hc' 0 _ rfl, Vw.goS encB_length (by decide) Fr.refl (fun e he => hr.vw.fr (F21.t he)) k rfl hkl fun _ hc' => ⟨_, hc' 0 _ rfl, ?_⟩⟩⟩
   refine rLot_spec (hi _ (List.getElem_mem hjl)) fun w27 f27 => ⟨f27, ?_⟩
   rw [hc, ofL_dec]
   refine cnd_prop.2 ⟨fun h => yes (F21.t f27) ?_, fun h => ?_⟩
   ·rw [eh]
    exact List.any_eq_true.2 ⟨_, List.getElem_mem hjl, decide_eq_true h⟩
   ·refine ⟨inR64 (by omega) (by omega), ⟨⟨rfl, rfl, rfl, trivial⟩, j + 1, by omega, by omega, F21.t f27, ?_⟩, by dsimp only; omega⟩
    rw [List.take_add_one, List.getElem?_eq_getElem hjl, List.any_append, hb1]
    simp [h]
  ·have : j = L.length := by omega
   subst this
   rw [List.take_length] at hb1
   exact nx hf1 (by rw [eh]; exact hb1)
 ·have : k = (affected a b).length := by omega
  subst this
  rw [List.take_length] at hb
  have := hK u (m3.1.t hf)
  rw [et, hb] at this
  exact this
end
end Go.Proofs.YtfkmpbpkahcogaaGreatDoor
namespace Go.Proofs.YtfkmpbpkahcogaaGreatDoor
open Go Pw Dp
def encP (p : T43 × T43) : List Value := p.1.cs ++ p.2.cs
@[simp] theorem encP_length (p : T43 × T43) : (encP p).length = 40 := rfl
theorem encP_fst (X Y : T43) : ∀ k v, X.cs[k]? = some v -> (encP (X, Y))[0 + k]? = some v := fun k v h => by
 have hk := (List.getElem?_eq_some_iff.1 h).1
 unfold encP
 rw [Nat.zero_add, List.getElem?_append_left hk]
 exact h
theorem encP_snd (X Y : T43) : ∀ k v, Y.cs[k]? = some v -> (encP (X, Y))[20 + k]? = some v := fun k v h => by
 have e : X.cs.length = 20 := rfl
 unfold encP
 rw [List.getElem?_append_right (by rw [e]; omega), e, Nat.add_sub_cancel_left]
 exact h
section
variable {w w0 u : World} {x : T29} {p : Pn} {K : Bool -> World -> Prop} {X Y y z : T43} {ta tb : Td}
theorem T43.lds_off {S : World -> Prop} {b o : Nat} {x : T43} {J : T43 -> Prop} (h : ∀ w, S w -> ∀ i v, x.cs[i]? = some v -> w.cell? ⟨b, o + i, none⟩ = some v) (hJ : J x) : T43.lds S ⟨b, o, none⟩ J :=
 ⟨_, fun w hw => h w hw 0 _ rfl, _, fun w hw => h w hw 1 _ rfl, _, fun w hw => h w hw 2 _ rfl, _, fun w hw => h w hw 3 _ rfl, _, fun w hw => h w hw 4 _ rfl, _, fun w hw => h w hw 5 _ rfl, _, fun w hw => h w hw 6 _ rfl, _, fun w hw => h w hw 7 _ rfl, _, fun w hw => h w hw 8 _ rfl, _, fun w hw => h w hw 9 _ rfl, _, fun w hw => h w hw 10 _ rfl, _, fun w hw => h w hw 11 _ rfl, _, fun w hw => h w hw 12 _ rfl, _, fun w hw => h w hw 13 _ rfl, _, fun w hw => h w hw 14 _ rfl, _, fun w hw => h w hw 15 _ rfl, _, fun w hw => h w hw 16 _ rfl, _, fun w hw => h w hw 17 _ rfl, _, fun w hw => h w hw 18 _ rfl, _, fun w hw => h w hw 19 _ rfl, hJ⟩
theorem Edits_b2 {ls s43 : Sl} {lots : List Int} {i : Nat} {l : List (T43 × T43)} {N2 : Sl -> Bool -> Sl -> Int -> Int -> World -> Prop} (hv : Vw 40 encP w s43 l) (hi : i < l.length) (he : l[i] = (X, Y)) (hX : TP w X ta) (hY : TP w Y tb) (A : Fit ta) (B : Fit tb) (g : GlT w) (hl : Vw 1 encI w ls lots) (hln : lots.length < 2 ^ 62) (hli : ∀ i ∈ lots, I64 i) (hi3 : i < 3)
  (hN : ∀ w', Fr F0 w w' -> N2 ls true s43 3 ((i : Int) + 1) w') : probitylaw07_DependEdits_b2 ls true s43 3 i N2 K w := by
 unfold probitylaw07_DependEdits_b2
 refine cnd_prop.2 ⟨fun _ => ?_, fun h => absurd (by omega) h⟩
 refine Vw.go encP_length (by decide) hv i rfl hi fun _ hc => ?_
 rw [he] at hc
 refine ⟨_, hc 0 _ rfl, X.f1, hc 1 _ rfl, X.f2, hc 2 _ rfl, X.f3, hc 3 _ rfl, _, hc 4 _ rfl, _, hc 5 _ rfl, _, hc 6 _ rfl, _, hc 7 _ rfl, _, hc 8 _ rfl, _, hc 9 _ rfl, X.f10, hc 10 _ rfl, X.f11, hc 11 _ rfl, _, hc 12 _ rfl, X.f13, hc 13 _ rfl, _, hc 14 _ rfl, _, hc 15 _ rfl, _, hc 16 _ rfl, _, hc 17 _ rfl, _, hc 18 _ rfl, _, hc 19 _ rfl, _, hc 20 _ rfl, Y.f1, hc 21 _ rfl, Y.f2, hc 22 _ rfl, Y.f3, hc 23 _ rfl, _, hc 24 _ rfl, _, hc 25 _ rfl, _, hc 26 _ rfl, _, hc 27 _ rfl, _, hc 28 _ rfl, _, hc 29 _ rfl, Y.f10, hc 30 _ rfl, Y.f11, hc 31 _ rfl, _, hc 32 _ rfl, Y.f13, hc 33 _ rfl, _, hc 34 _ rfl, _, hc 35 _ rfl, _, hc 36 _ rfl, _, hc 37 _ rfl, _, hc 38 _ rfl, _, hc 39 _ rfl, ?_⟩
 refine stN_new (vs := encP (X, Y)) rfl Mem.nil fun w78 m => ?_
 intro w79
 have m : Mem w w79 [(w.heap.size, encP (X, Y))] := m.drew
 clear_value w79
 generalize w.heap.size = b at *
 have hr := m.row 0 rfl
 have c1 : ∀ e, Fr F0 w79 e -> ∀ i v, X.cs[i]? = some v -> e.cell? ⟨b, 0 + i, none⟩ = some v := fun e he i v h => (he.row hr fun h => h).at (encP_fst X Y i v h)
 have c2 : ∀ e, Fr F0 w79 e -> ∀ i v, Y.cs[i]? = some v -> e.cell? ⟨b, 20 + i, none⟩ = some v := fun e he i v h => (he.row hr fun h => h).at (encP_snd X Y i v h)
 have q1 : ∀ {J : T43 -> Prop}, J X -> T43.lds (fun e => Fr F0 w79 e) ((⟨b, 0, none⟩ : Addr).add ((0 : Int).toNat * 20)) J := fun hJ => T43.lds_off c1 hJ
 have q2 : ∀ {J : T43 -> Prop}, J Y -> T43.lds (fun e => Fr F0 w79 e) ((⟨b, 0, none⟩ : Addr).add ((1 : Int).toNat * 20)) J := fun hJ => T43.lds_off c2 hJ
 have n0 : (0 : Int) <= 0 /\ (0 : Int) < (2 : Nat) := ⟨by omega, by omega⟩
 have n1 : (0 : Int) <= 1 /\ (1 : Int) < (2 : Nat) := ⟨by omega, by omega⟩
 have hX := hX.fr m.1
 have hY := hY.fr m.1
 have g := g.fr m.1
 have hl := hl.fr m.1
 have hbl := A.both B
 have hch : (changed ta tb).length <= (both ta tb).length := List.length_filter_le _ _
 have haf : (affected ta tb).length <= (both ta tb).length := List.length_filter_le _ _
 refine ⟨fun e => Fr F0 w79 e, Fr.refl, n0, q1 ⟨n1, q2 ⟨n0, q1 ⟨n1, q2 ?_⟩⟩⟩⟩
 refine Changed_spec hX hY A B g fun w26 s1 m1 => ⟨m1.fr0, ?_⟩
 refine rChanged_spec (hX.fr m1.fr0) (hY.fr m1.fr0) A B fun w28 s2 m2 => ⟨m1.fr0.t m2.fr0, ?_⟩
 refine is_spec (m1.vw.fr m2.fr0) m2.vw (by omega) fun w30 f30 => ?_
 have F30 := m1.fr0.t (m2.fr0.t f30)
 rw [decide_eq_true rfl]
 refine ⟨F30, ?_⟩
 show cnd false _ _
 rw [cnd_false]
 refine ⟨n0, q1 ⟨n1, q2 ⟨n0, q1 ⟨n1, q2 ?_⟩⟩⟩⟩
 refine Affected_spec (hX.fr F30) (hY.fr F30) A B (g.fr F30) fun w36 s3 m3 => ⟨F30.t m3.fr0, ?_⟩
 have F36 := F30.t m3.fr0
 refine rAffected_spec (hX.fr F36) (hY.fr F36) A B fun w38 s4 m4 => ⟨F36.t m4.fr0, ?_⟩
 refine is_spec (m3.vw.fr m4.fr0) m4.vw (by omega) fun w40 f40 => ?_
 have F40 := F36.t (m4.fr0.t f40)
 rw [decide_eq_true rfl]
 refine ⟨F40, ?_⟩
 show cnd false _ _
 rw [cnd_false]
 refine ⟨n0, q1 ⟨n1, q2 ⟨n0, q1 ⟨n1, q2 ?_⟩⟩⟩⟩
 refine Touches_spec (hX.fr F40) (hY.fr F40) A B (g.fr F40) (hl.fr F40) hln hli fun w46 f46 => ⟨F40.t f46, ?_⟩
 have F46 := F40.t f46
 refine rTouches_spec (hX.fr F46) (hY.fr F46) A B (hl.fr F46) hln hli fun w48 f48 => ⟨F46.t f48, ?_⟩
 rw [beq_self_eq_true]
 show cnd false _ _
 rw [cnd_false]
 exact ⟨inR64 (by omega) (by omega), hN w48 (m.1.t (F46.t f48))⟩
theorem Edits_k1_spec {ba bo : Nat} {ls : Sl} {lots : List Int} (ra : Row w ba y.cs) (rb : Row w bo z.cs) (U1 : TP w y ta) (U2 : TP w z tb) (hA : Fit ta) (hB : Fit tb) (g : GlT w) (hv : Vw 1 encI w ls lots) (hl : lots.length < 2 ^ 62) (hi : ∀ i ∈ lots, I64 i) (hK : ∀ w', Fr F0 w w' -> K true w') :
  probitylaw07_DependEdits_k1 ls true ⟨ba, 0, none⟩ ⟨bo, 0, none⟩ K w := by
 refine ⟨?_⟩
 unfold probitylaw07_DependEdits_k1d
 refine T43.ld_row ra (T43.ld_row rb (T43.ld_row rb (T43.ld_row ra (T43.ld_row ra (T43.ld_row ra ?_)))))
 intro w35
 have hr : Row w35 w.heap.size ([(y, z), (z, y), (y, y)].flatMap encP) := Row.new
 have f35 : Fr F0 w w35 := Fr.alloc
 clear_value w35
 generalize w.heap.size = b at *
 have hV : Vw 40 encP w35 ⟨some ⟨b, 0, none⟩, 3, 3⟩ [(y, z), (z, y), (y, y)] := (Row.ow encP_length hr).vw
 refine ⟨⟨fun i u => ∃ i' : Nat, i = i' /\ i' <= 3 /\ Fr F0 w35 u, fun i _ => 3 - i.toNat, ⟨0, rfl, by omega, Fr.refl⟩, ?_⟩⟩
 rintro i u ⟨i, rfl, hi3, hf⟩
 have F := f35.t hf
 rcases (show i = 3 \/ i = 0 \/ i = 1 \/ i = 2 by omega) with rfl | h
 ·unfold probitylaw07_DependEdits_b2
  exact cnd_prop.2 ⟨fun h => by omega, fun _ => hK u F⟩
 have hil : i < [(y, z), (z, y), (y, y)].length := by show i < 3; omega
 obtain ⟨X, Y, s, t, he, hX, hY, hs, ht⟩ : ∃ X Y s t, [(y, z), (z, y), (y, y)][i] = (X, Y) /\ TP w X s /\ TP w Y t /\ Fit s /\ Fit t := by
  rcases h with rfl | rfl | rfl
  ·exact ⟨y, z, ta, tb, rfl, U1, U2, hA, hB⟩
  ·exact ⟨z, y, tb, ta, rfl, U2, U1, hB, hA⟩
  ·exact ⟨y, y, ta, ta, rfl, U1, U1, hA, hA⟩
 exact Edits_b2 (hV.fr hf) hil he (hX.fr F) (hY.fr F) hs ht (g.fr F) (hv.fr F) hl hi (by omega) fun w' f' => ⟨⟨⟨rfl, rfl, rfl, rfl, trivial⟩, i + 1, by omega, by omega, hf.t f'⟩, by dsimp only; omega⟩
theorem Edits_l0_spec {ba bo lo : Nat} {es ls : Sl} {el : List (Int × Int × Int)} {lots : List Int} {Za Zb : List Sl} {D : Nat -> Prop} (f0 : Fr F0 w0 w) (hbo : w0.heap.size <= bo) (hne : ba ≠ bo) (ra : Row w ba y.cs) (rb : Row w bo z.cs) (Ua : TD D w y ta Za) (hD : D bo) (Ub : TE lo w z tb Zb) (hA : Fit ta) (hB : FitK 4 tb) (g : GlT w0)
  (he : Vw 3 encT3 w0 es el) (hei : ∀ e ∈ el, I64 e.2.2) (hv : Vw 1 encI w0 ls lots) (hl : lots.length < 2 ^ 62) (hi : ∀ i ∈ lots, I64 i) (hK : ∀ w', Fr F0 w0 w' -> K true w') :
  probitylaw07_DependEdits_l0 es ls true ⟨ba, 0, none⟩ ⟨bo, 0, none⟩ 0 K w := by
 have eel := he.len
 refine ⟨⟨fun i u => ∃ (i' lo : Nat) (z : T43) (tb : Td) (Zb : List Sl), i = i' /\ i' <= 4 /\ i' <= el.length /\ Fr F0 w0 u /\ Row u ba y.cs /\ Row u bo z.cs /\ TD D u y ta Za /\ TE lo u z tb Zb /\ FitK (4 - i') tb, fun i _ => 4 - i.toNat, ⟨0, lo, z, tb, Zb, rfl, by omega, by omega, f0, ra, rb, Ua, Ub, hB⟩, ?_⟩⟩
 rintro i u ⟨i, lo, z, tb, Zb, rfl, h4, hil, f0, ra, rb, Ua, Ub, hB⟩
 unfold probitylaw07_DependEdits_b0
 have hend : probitylaw07_DependEdits_k1 ls true ⟨ba, 0, none⟩ ⟨bo, 0, none⟩ K u := Edits_k1_spec ra rb Ua.tp Ub.tp hA hB.fit (g.fr f0) (hv.fr f0) hl hi fun w' f => hK w' (f0.t f)
 refine cnd_prop.2 ⟨fun h1 => cnd_prop.2 ⟨fun h2 => ?_, fun _ => hend⟩, fun _ => hend⟩
 have hlt : i < el.length := by omega
 intro w33
 have d : Fr F0 u w33 := Fr.drew
 clear_value w33
 have f0 := f0.t d
 have ra := d.row ra fun h => h
 have rb := d.row rb fun h => h
 have Ua := Ua.fr d
 have Ub := Ub.fr d
 refine ⟨fun v => v = w33, rfl, T43.lds_row (fun v hv => by rw [hv]; exact rb) ?_⟩
 refine Vw.goS (S := fun v => v = w33) encT3_length (by decide) rfl (fun v hv => by rw [hv]; exact he.fr f0) i rfl hlt fun a hc => ⟨_, hc 0 _ rfl, _, hc 1 _ rfl, _, hc 2 _ rfl, ?_⟩
 obtain ⟨k, hk⟩ : ∃ k, 4 - i = k + 1 := ⟨3 - i, by omega⟩
 rw [hk] at hB
 have hq := hei _ (List.getElem_mem hlt)
 refine edit_store rb Ub hB fun v z' Z' fv rb' U' => ⟨inR64 (by omega) (by omega), ⟨⟨rfl, rfl, rfl, rfl, rfl, trivial⟩, i + 1, _, z', _, Z', by omega, by omega, by omega, ?_, fv.row ra hne, rb', ?_, U', ?_⟩, by dsimp only; omega⟩
 ·exact f0.trans fv fun b hb hlt => by omega
 ·exact Ua.frB (F := fun c => c = bo) (fun c hc => by rw [show c = bo from hc]; exact hD) (fun c hc => ⟨z, by rw [show c = bo from hc]; exact rb⟩) (fun c hc => ⟨z', by rw [show c = bo from hc]; exact rb'⟩) fv
 ·exact FitK.mono (edit_fit hB hq) (by omega)
theorem Edits_fr {es ls : Sl} {el : List (Int × Int × Int)} {lots : List Int} (g : GlT w) (hp : PP w x p) (hf : PFit p) (he : Vw 3 encT3 w es el) (hei : ∀ e ∈ el, I64 e.1 /\ I64 e.2.1 /\ I64 e.2.2) (hv : Vw 1 encI w ls lots) (hi : ∀ i ∈ lots, I64 i) (hl : lots.length < 2 ^ 62) (hK : ∀ w', Fr F0 w w' -> K true w') : probitylaw07_DependEdits_sh x es ls K w := by
 refine ⟨?_⟩
 unfold probitylaw07_DependEdits_sd
 intro w1
 have m : Mem w w1 [(w.heap.size, x.cs)] := Mem.nil.allocL
 clear_value w1
 refine sanity_spec (g.fr m.1) fun w2 f2 => ?_
 have m := m.fr f2
 intro w4
 have m : Mem w w4 [(w.heap.size, x.cs)] := m.drew
 clear_value w4
 have hR : ∀ {u : World}, Fr F0 w4 u -> Row u w.heap.size x.cs := fun f => (m.fr f).row 0 rfl
 have hP : ∀ {u : World}, Fr F0 w4 u -> PP u x p := fun f => hp.fr (m.1.t f)
 refine ⟨fun u => Fr F0 w4 u, Fr.refl, T29.lds_row (fun u hu => hR hu) (T29.lds_row (fun u hu => hR hu) ⟨fun u u' h hs => hs.t h.f0, ⟨fun u => ExtL.alloc, fun u => ExtL.alloc, trivial⟩, fun w8 e8 => ?_⟩)⟩
 refine TenderW_spec (hP e8.f0) hf fun w9 r10 Z1 f9 T1 O1 => ⟨f9.ext, fun w11 e11 => ?_⟩
 have f11 := e8.f0.t (f9.t e11.f0)
 refine TenderW_spec (hP f11) hf fun w12 r13 Z2 f12 T2 O2 => ⟨f12.ext, fun w14 e14 w15 e15 _ g15 w16 e16 n16 g16 => ?_⟩
 have f14 := f11.t (f12.t e14.f0)
 have ga := e11.f0.t (f12.t e14.f0)
 have r15 := g15.f0.row (Row.new (cs := zT)) fun h => h
 have r16 := g16.f0.row (Row.new (cs := zT)) fun h => h
 have hne : w15.heap.size ≠ w16.heap.size := n16 _ (List.mem_cons_self ..)
 have l15 := e15.f0.1
 have l16 := e16.f0.1
 generalize w15.heap.size = ba at hne r15 l15 ⊢
 generalize w16.heap.size = bo at hne r16 l16 ⊢
 refine two_box r15 r16 hne (T1.fr ga) (O1.fr ga) (T2.fr e14.f0) (O2.fr e14.f0) (fun u f => f14.trans f fun b hb _ => by omega) fun w18 f18 v1 v2 U1 U2 => ?_
 have F18 : Fr F0 w4 w18 := f14.trans f18 fun b hb _ => by omega
 have A1 := tdP_fitK hf
 have B1 := A1.fit
 have W18 := m.1.t F18
 have kw := m.1.1
 exact Edits_l0_spec (lo := 0) W18 (by omega) hne v1 v2 U1 (.inr rfl) U2.te B1 (FitK.mono A1 (by omega)) g he (fun e h => (hei e h).2.2) hv hl hi fun w' f => hK w' f
end
end Go.Proofs.YtfkmpbpkahcogaaGreatDoor
