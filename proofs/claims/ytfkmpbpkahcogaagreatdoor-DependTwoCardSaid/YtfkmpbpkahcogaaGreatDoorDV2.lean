/- The reference: names of formulas, formulas that are right, equal formulas. Conditions: none. -/
import Derived.Test.YtfkmpbpkahcogaaGreatDoorDV1
import Derived.Test.YtfkmpbpkahcogaaGreatDoorDRTY
import Derived.Test.YtfkmpbpkahcogaaGreatDoorRZ3
namespace Dp
open Go Pw
theorem Fm.kidInd {P : Fm -> Prop} (h : ∀ e, (∀ k ∈ e.kids, P k) -> P e) : ∀ e, P e
 | .num _ _ => h _ fun k hk => by cases hk
 | .name _ => h _ fun k hk => by cases hk
 | .op o a b => h _ fun k hk => by
  have ha := Fm.kidInd h a
  have hb := Fm.kidInd h b
  simp only [Fm.kids, List.mem_cons, List.not_mem_nil, or_false] at hk
  rcases hk with rfl | rfl
  ·exact ha
  ·exact hb
def Fm.fit : Fm -> Bool
 | .num n d => numOk n d
 | .name s => nameOk s
 | .op _ _ _ => true
theorem sound_kids (e : Fm) : e.sound = (e.fit && e.kids.all Fm.sound) := by
 cases e <;> simp [Fm.sound, Fm.fit, Fm.kids]
theorem parts_kids (e : Fm) : e.parts = 1 + (e.kids.map Fm.parts).sum := by
 cases e <;> simp [Fm.parts, Fm.kids]
 omega
theorem depth_kids (e : Fm) : e.depth = (e.kids.map Fm.depth).foldl max 0 + 1 := by
 cases e <;> simp [Fm.depth, Fm.kids]
theorem depth_parts : ∀ e : Fm, e.depth <= e.parts
 | .num _ _ => by simp [Fm.depth, Fm.parts]
 | .name _ => by simp [Fm.depth, Fm.parts]
 | .op _ a b => by
  have := depth_parts a
  have := depth_parts b
  simp only [Fm.depth, Fm.parts]
  omega
theorem kids_two (e : Fm) : e.kids.length <= 2 := by cases e <;> simp [Fm.kids]
theorem take_snoc {α β : Type} (f : α -> β) (l : List α) {i : Nat} (h : i < l.length) : (l.take (i + 1)).map f = (l.take i).map f ++ [f l[i]] := by
 rw [List.take_add_one, List.getElem?_eq_getElem h, List.map_append]
 rfl
theorem sum_take (e : Fm) (i : Nat) : ((e.kids.take i).map Fm.parts).sum + 1 <= e.parts := by
 rw [parts_kids]
 have h : ((e.kids.take i).map Fm.parts).sum <= (e.kids.map Fm.parts).sum := by
  conv => rhs; rw [← List.take_append_drop i e.kids]
  rw [List.map_append, List.sum_append]
  omega
 omega
end Dp
namespace Go.Proofs.YtfkmpbpkahcogaaGreatDoor
open Go Pw Dp
section
variable {w0 w w' : World} {s s' : Sl} {l : List B} {x : T43} {t : Td}
theorem rletter_spec {c : UInt8} {K : Bool -> World -> Prop} (hK : K (letterB c) w) : z0s_sh (c.toNat : Int) K w := by
 refine ⟨?_⟩
 unfold z0s_sd
 have e2 : letterB c = ((decide (97 <= c.toNat) && decide (c.toNat <= 122)) || (decide (65 <= c.toNat) && decide (c.toNat <= 90))) := rfl
 refine cnd_prop.2 ⟨fun h1 => cnd_prop.2 ⟨fun h2 => ?_, fun h2 => cnd_prop.2 ⟨fun h3 => ?_, fun h3 => ?_⟩⟩, fun h1 => cnd_prop.2 ⟨fun h3 => ?_, fun h3 => ?_⟩⟩
 ·have : letterB c = true := by rw [e2]; simp; omega
  rwa [this] at hK
 ·have : letterB c = decide ((c.toNat : Int) <= 90) := by rw [e2, Bool.eq_iff_iff]; simp; omega
  rwa [this] at hK
 ·have : letterB c = false := by rw [e2]; simp; omega
  rwa [this] at hK
 ·have : letterB c = decide ((c.toNat : Int) <= 90) := by rw [e2, Bool.eq_iff_iff]; simp; omega
  rwa [this] at hK
 ·have : letterB c = false := by rw [e2]; simp; omega
  rwa [this] at hK
theorem rdigit_spec {c : UInt8} {K : Bool -> World -> Prop} (hK : K (digitB c) w) : z13_sh (c.toNat : Int) K w := by
 refine ⟨?_⟩
 unfold z13_sd
 refine cnd_prop.2 ⟨fun h1 => ?_, fun h1 => ?_⟩
 ·have : digitB c = decide ((c.toNat : Int) <= 57) := by unfold digitB; rw [Bool.eq_iff_iff]; simp; omega
  rwa [this] at hK
 ·have : digitB c = false := by unfold digitB; simp; omega
  rwa [this] at hK
theorem rfollows_spec {c : UInt8} {K : Bool -> World -> Prop} (hK : K (inNameB c) w) : z0g_sh (c.toNat : Int) K w := by
 refine ⟨?_⟩
 unfold z0g_sd
 refine rletter_spec (rdigit_spec (cnd_iff.2 ⟨fun h => ?_, fun h => cnd_iff.2 ⟨fun h' => ?_, fun h' => ?_⟩⟩))
 ·have : inNameB c = true := by unfold inNameB; rw [h]; rfl
  rwa [this] at hK
 ·have : inNameB c = true := by unfold inNameB; rw [h, h']; rfl
  rwa [this] at hK
 ·have : inNameB c = ((c.toNat : Int) == 95) := by unfold inNameB; rw [h, h', Bool.eq_iff_iff]; simp; omega
  rwa [this] at hK
theorem rIsName_spec {l : B} {K : Bool -> World -> Prop} (hl : l.length < 2 ^ 62) (hK : K (isNameB l) w) : z0r_sh (ofL l) K w := by
 refine ⟨?_⟩
 unfold z0r_sd
 rw [ofL_sz]
 refine cnd_prop.2 ⟨fun h => ?_, fun h1 => cnd_prop.2 ⟨fun h => ?_, fun h30 => ?_⟩⟩
 ·have : l = [] := List.eq_nil_of_length_eq_zero (by omega)
  subst this
  exact hK
 ·have : isNameB l = false := by
   cases l with
   | nil => rfl
   | cons c r =>
    show (decide ((c :: r).length <= 30) && _) = false
    rw [decide_eq_false (by omega), Bool.false_and]
  rw [this] at hK
  exact hK
 obtain ⟨c0, r0, rfl⟩ : ∃ c r, l = c :: r := by
  cases l with
  | nil => simp at h1
  | cons c r => exact ⟨c, r, rfl⟩
 have en : isNameB (c0 :: r0) = (letterB c0 && (c0 :: r0).all inNameB) := by
  show (decide ((c0 :: r0).length <= 30) && _) = _
  rw [decide_eq_true (by omega), Bool.true_and]
 generalize hl0 : c0 :: r0 = l at *
 refine ⟨⟨fun i u => ∃ i' : Nat, i = i' /\ i' <= l.length /\ u = w /\ (l.take i').all inNameB = true /\ (0 < i' -> letterB c0 = true), fun i _ => l.length - i.toNat, ⟨0, rfl, by omega, rfl, by simp, fun h => by omega⟩, ?_⟩⟩
 rintro i u ⟨i, rfl, hi, rfl, hb, hc⟩
 unfold z0r_b0
 rw [ofL_sz]
 refine cnd_prop.2 ⟨fun hlt => ⟨⟨by omega, by omega⟩, ?_⟩, fun hge => ?_⟩
 ·have hil : i < l.length := by omega
  have e : ((ofL l).data.toList.getD (i : Int).toNat 0) = l[i] := by
   show (bl (ofL l)).getD i 0 = _
   rw [bl_ofL, List.getD_eq_getElem?_getD, List.getElem?_eq_getElem hil]
   rfl
  rw [e]
  have no : inNameB l[i] = false -> isNameB l = false := fun h => by
   rw [en, List.all_eq_false.2 ⟨_, List.getElem_mem hil, by simp [h]⟩, Bool.and_false]
  have nx : inNameB l[i] = true -> (0 < i + 1 -> letterB c0 = true) -> inR .i64 ((i : Int) + 1) /\ (((True /\ True)) /\ ∃ i' : Nat, (i : Int) + 1 = i' /\ i' <= l.length /\ u = u /\ (l.take i').all inNameB = true /\ (0 < i' -> letterB c0 = true)) := fun h hc => by
   refine ⟨inR64 (by omega) (by omega), ⟨trivial, trivial⟩, i + 1, by omega, by omega, rfl, ?_, hc⟩
   rw [List.take_add_one, List.getElem?_eq_getElem hil, List.all_append, hb]
   simp [h]
  refine rfollows_spec ⟨⟨by omega, by omega⟩, rletter_spec (cnd_iff.2 ⟨fun h => ?_, fun h => cnd_beq.2 ⟨fun h0 => cnd_iff.2 ⟨fun h' => ?_, fun h' => ?_⟩, fun h0 => ?_⟩⟩)⟩
  ·have h : inNameB l[i] = false := by simpa using h
   rw [no h] at hK
   exact hK
  ·have h' : letterB l[i] = false := by simpa using h'
   have h0 : i = 0 := by omega
   subst h0
   have : letterB c0 = false := by
    subst hl0
    exact h'
   rw [en, this, Bool.false_and] at hK
   exact hK
  ·have h : inNameB l[i] = true := by simpa using h
   have h' : letterB l[i] = true := by simpa using h'
   have h0 : i = 0 := by omega
   subst h0
   obtain ⟨n1, _, n2⟩ := nx h fun _ => by subst hl0; exact h'
   exact ⟨n1, ⟨⟨rfl, trivial⟩, n2⟩, by dsimp only; omega⟩
  ·have h : inNameB l[i] = true := by simpa using h
   obtain ⟨n1, _, n2⟩ := nx h fun _ => hc (by omega)
   exact ⟨n1, ⟨⟨rfl, trivial⟩, n2⟩, by dsimp only; omega⟩
 ·have : i = l.length := by omega
  subst this
  rw [List.take_length] at hb
  have h0 : 0 < l.length := by subst hl0; simp
  rw [en, hb, hc h0] at hK
  exact hK
theorem fits_spec {e : Fm} {c : XC} {K : Bool -> World -> Prop} (hx : XP w e c) (hK : ∀ w', Fr F0 w w' -> K e.fit w') : z1e_sh c.op c.n c.d c.nm c.a K w := by
 refine ⟨?_⟩
 unfold z1e_sd
 intro w1
 have m : Mem w w1 [(w.heap.size, _)] := Mem.nil.allocL (cs := encX c)
 clear_value w1
 have hbox := m.row 0 rfl
 cases e with
 | num n d =>
  obtain ⟨rfl, hn64, hd64⟩ := hx
  refine ⟨_, hbox.at rfl, ?_⟩
  have ee : decide (ofL wNum = str [110, 117, 109]) = true := by decide
  rw [ee]
  refine ⟨n, hbox.at rfl, d, hbox.at rfl, rRight_spec hn64 hd64 fun w3 hf3 => ?_⟩
  have hbox3 := hf3.row hbox fun h => h
  have fin : ∀ b, numOk n d = b -> K b w3 := fun b hb => by subst hb; exact hK w3 (m.1.t hf3)
  refine cnd_prop.2 ⟨fun h1 => ⟨n, hbox3.at rfl, cnd_prop.2 ⟨fun h2 => ?_, fun h2 => fin _ (Bool.eq_false_iff.2 fun h => h2 (num_sound.1 h).2.1)⟩⟩, fun h1 => fin _ (Bool.eq_false_iff.2 fun h => h1 (num_sound.1 h).1)⟩
  have hd0 : 0 < d := h1.1
  refine ⟨d, hbox3.at rfl, by omega, cnd_beq.2 ⟨fun h3 => ?_, fun h3 => fin _ (Bool.eq_false_iff.2 fun h => h3 (num_sound.1 h).2.2.1)⟩⟩
  have hdl := den_le hd0 h3
  refine ⟨n, hbox3.at rfl, d, hbox3.at rfl, inR64 (by omega) (by omega), cnd_prop.2 ⟨fun h4 => ?_, fun h4 => fin _ (Bool.eq_false_iff.2 fun h => h4 (num_sound.1 h).2.2.2)⟩⟩
  refine ⟨_, hbox3.at rfl, ?_⟩
  have ee : decide (ofL [] = str []) = true := by decide
  rw [ee]
  exact ⟨⟨none, 0, 0⟩, hbox3.at rfl, fin _ (num_sound.2 ⟨h1, h2, h3, h4⟩)⟩
 | name s =>
  obtain ⟨rfl, hs20⟩ := hx
  have fin : ∀ b, nameOk s = b -> K b w1 := fun b hb => by subst hb; exact hK w1 m.1
  have en : nameOk s = (isNameB s && (!decide (s = wMin) && !decide (s = wMax))) := rfl
  refine ⟨_, hbox.at rfl, ?_⟩
  have ee : decide (ofL wName = str [110, 117, 109]) = false := by decide
  have ee' : decide (ofL wName = str [110, 97, 109, 101]) = true := by decide
  rw [ee, ee']
  refine ⟨_, hbox.at rfl, rIsName_spec (by omega) (cnd_iff.2 ⟨fun h1 => ⟨_, hbox.at rfl, ?_⟩, fun h1 => fin _ (by rw [en, h1]; rfl)⟩)⟩
  rw [show decide (ofL s = str [109, 105, 110]) = decide (s = wMin) from ofL_dec s wMin]
  refine cnd_iff.2 ⟨fun h2 => ⟨_, hbox.at rfl, ?_⟩, fun h2 => fin _ (by rw [en, h2]; simp)⟩
  rw [show decide (ofL s = str [109, 97, 120]) = decide (s = wMax) from ofL_dec s wMax]
  refine cnd_iff.2 ⟨fun h3 => ⟨0, hbox.at rfl, 0, hbox.at rfl, ?_⟩, fun h3 => fin _ (by rw [en, h3]; simp)⟩
  show cnd true _ _
  rw [cnd_true]
  exact ⟨⟨none, 0, 0⟩, hbox.at rfl, fin _ (by rw [en, h1, h2, h3]; rfl)⟩
 | op o a b =>
  obtain ⟨ca, cb, ⟨h1, h2, h3, h4⟩, hv, hxa, hxb⟩ := hx
  obtain ⟨op, n, d, nm, sa⟩ := c
  simp only at h1 h2 h3 h4 hv
  subst h1 h2 h3 h4
  have hl2 : sa.l = 2 := hv.len
  refine ⟨_, hbox.at rfl, ?_⟩
  rw [opnum o, opname o, op43 o, op45 o, op42 o, op47 o, opmin o, opmax o]
  refine op_chain ⟨?_⟩ o
  unfold z1e_k0d
  simp only [add_mk, Nat.zero_add]
  refine ⟨0, hbox.at rfl, 0, hbox.at rfl, ?_⟩
  show cnd true _ _
  rw [cnd_true]
  refine ⟨_, hbox.at rfl, ?_⟩
  have ee : decide (ofL [] = str []) = true := by decide
  rw [ee, cnd_true]
  refine ⟨sa, hbox.at rfl, ?_⟩
  rw [hl2]
  exact hK w1 m.1
theorem sound_spec (e : Fm) : ∀ {c : XC} {w : World} {K : Bool -> World -> Prop}, XP w e c -> (∀ w', Fr F0 w w' -> K e.sound w') -> z14_sh c.op c.n c.d c.nm c.a K w := by
 refine Fm.kidInd (P := fun e => ∀ {c : XC} {w : World} {K : Bool -> World -> Prop}, XP w e c -> (∀ w', Fr F0 w w' -> K e.sound w') -> z14_sh c.op c.n c.d c.nm c.a K w) (fun e ih c w K hx hK => ?_) e
 obtain ⟨cs, hcv, hcl, hck⟩ := hx.kids
 have hea : c.a.l = e.kids.length := by rw [hcv.len, hcl]
 have h2 := kids_two e
 refine z14_mk _ _ _ _ _ _ _ ?_
 unfold z14_sd
 intro w1
 have m : Mem w w1 [(w.heap.size, _)] := Mem.nil.allocL (cs := encX c)
 clear_value w1
 have hbox := m.row 0 rfl
 refine ⟨_, hbox.at rfl, _, hbox.at rfl, _, hbox.at rfl, _, hbox.at rfl, c.a, hbox.at rfl, fits_spec (hx.fr m.1) fun w2 f2 => ?_⟩
 refine ⟨⟨fun ok i u => ∃ i' : Nat, i = i' /\ i' <= e.kids.length /\ Fr F0 w1 u /\ ok = (e.fit && (e.kids.take i').all Fm.sound), fun _ i _ => e.kids.length - i.toNat, ⟨0, rfl, by omega, f2, by simp⟩, ?_⟩⟩
 rintro ok i u ⟨i, rfl, hi, hf, rfl⟩
 unfold z14_b0
 have hb := hf.row hbox fun h => h
 refine ⟨c.a, hb.at (i := 4) rfl, ?_⟩
 rw [hea]
 refine cnd_prop.2 ⟨fun hlt => cnd_iff.2 ⟨fun ho => ⟨c.a, hb.at (i := 4) rfl, ?_⟩, fun ho => ?_⟩, fun hge => ?_⟩
 ·have hil : i < e.kids.length := by omega
  refine ldX (hcv.fr (m.1.t hf)) i rfl (by omega) ?_
  refine ih _ (List.getElem_mem hil) ((hck i (by omega) hil).fr (m.1.t hf)) fun w3 f3 => ⟨inR64 (by omega) (by omega), ⟨⟨rfl, trivial⟩, i + 1, by omega, by omega, hf.t f3, ?_⟩, by dsimp only; omega⟩
  rw [List.take_add_one, List.getElem?_eq_getElem hil, List.all_append, ← Bool.and_assoc, ho]
  simp
 ·have : e.sound = false := by
   rw [sound_kids]
   rw [Bool.and_eq_false_iff] at ho ⊢
   refine ho.imp id fun h => ?_
   rw [List.all_eq_false] at h ⊢
   obtain ⟨k, hk, h⟩ := h
   exact ⟨k, List.mem_of_mem_take hk, h⟩
  rw [ho, ← this]
  exact hK u (m.1.t hf)
 ·have : i = e.kids.length := by omega
  subst this
  rw [List.take_length, ← sound_kids]
  exact hK u (m.1.t hf)
theorem Parts_spec (e : Fm) : ∀ {c : XC} {w : World} {K : Int -> World -> Prop}, XP w e c -> e.parts <= 2 ^ 38 -> (∀ w', Fr F0 w w' -> K (e.parts : Int) w') -> z12_sh c.op c.n c.d c.nm c.a K w := by
 refine Fm.kidInd (P := fun e => ∀ {c : XC} {w : World} {K : Int -> World -> Prop}, XP w e c -> e.parts <= 2 ^ 38 -> (∀ w', Fr F0 w w' -> K (e.parts : Int) w') -> z12_sh c.op c.n c.d c.nm c.a K w) (fun e ih c w K hx hp hK => ?_) e
 obtain ⟨cs, hcv, hcl, hck⟩ := hx.kids
 have hea : c.a.l = e.kids.length := by rw [hcv.len, hcl]
 have h2 := kids_two e
 refine z12_mk _ _ _ _ _ _ _ ?_
 unfold z12_sd
 intro w1
 have m : Mem w w1 [(w.heap.size, _)] := Mem.nil.allocL (cs := encX c)
 clear_value w1
 have hbox := m.row 0 rfl
 refine ⟨⟨fun n i u => ∃ i' : Nat, i = i' /\ i' <= e.kids.length /\ Fr F0 w1 u /\ n = ((1 + ((e.kids.take i').map Fm.parts).sum : Nat) : Int), fun _ i _ => e.kids.length - i.toNat, ⟨0, rfl, by omega, Fr.refl, by simp⟩, ?_⟩⟩
 rintro n i u ⟨i, rfl, hi, hf, rfl⟩
 unfold z12_b0
 have hb := hf.row hbox fun h => h
 refine ⟨c.a, hb.at (i := 4) rfl, ?_⟩
 rw [hea]
 refine cnd_prop.2 ⟨fun hlt => ⟨c.a, hb.at (i := 4) rfl, ?_⟩, fun hge => ?_⟩
 ·have hil : i < e.kids.length := by omega
  have hkp := kid_parts e _ (List.getElem_mem hil)
  have hs := sum_take e (i + 1)
  rw [take_snoc Fm.parts _ hil, List.sum_append] at hs
  simp only [List.sum_cons, List.sum_nil] at hs
  refine ldX (hcv.fr (m.1.t hf)) i rfl (by omega) ?_
  refine ih _ (List.getElem_mem hil) ((hck i (by omega) hil).fr (m.1.t hf)) (by omega) fun w3 f3 => ⟨inR64 (by omega) (by omega), inR64 (by omega) (by omega), ⟨⟨rfl, trivial⟩, i + 1, by omega, by omega, hf.t f3, ?_⟩, by dsimp only; omega⟩
  rw [take_snoc Fm.parts _ hil, List.sum_append]
  simp only [List.sum_cons, List.sum_nil]
  omega
 ·have : i = e.kids.length := by omega
  subst this
  rw [List.take_length, ← parts_kids]
  exact hK u (m.1.t hf)
theorem fold_snoc {l : List Nat} {n : Nat} : (l ++ [n]).foldl max 0 = max (l.foldl max 0) n := by rw [List.foldl_append]; rfl
theorem Depth_spec (e : Fm) : ∀ {c : XC} {w : World} {K : Int -> World -> Prop}, XP w e c -> e.parts <= 2 ^ 38 -> (∀ w', Fr F0 w w' -> K (e.depth : Int) w') -> z11_sh c.op c.n c.d c.nm c.a K w := by
 refine Fm.kidInd (P := fun e => ∀ {c : XC} {w : World} {K : Int -> World -> Prop}, XP w e c -> e.parts <= 2 ^ 38 -> (∀ w', Fr F0 w w' -> K (e.depth : Int) w') -> z11_sh c.op c.n c.d c.nm c.a K w) (fun e ih c w K hx hp hK => ?_) e
 obtain ⟨cs, hcv, hcl, hck⟩ := hx.kids
 have hea : c.a.l = e.kids.length := by rw [hcv.len, hcl]
 have h2 := kids_two e
 refine z11_mk _ _ _ _ _ _ _ ?_
 unfold z11_sd
 intro w1
 have m : Mem w w1 [(w.heap.size, _)] := Mem.nil.allocL (cs := encX c)
 clear_value w1
 have hbox := m.row 0 rfl
 refine ⟨⟨fun n i u => ∃ i' : Nat, i = i' /\ i' <= e.kids.length /\ Fr F0 w1 u /\ n = ((((e.kids.take i').map Fm.depth).foldl max 0 : Nat) : Int), fun _ i _ => e.kids.length - i.toNat, ⟨0, rfl, by omega, Fr.refl, by simp⟩, ?_⟩⟩
 rintro n i u ⟨i, rfl, hi, hf, rfl⟩
 unfold z11_b0
 have hb := hf.row hbox fun h => h
 refine ⟨c.a, hb.at (i := 4) rfl, ?_⟩
 rw [hea]
 refine cnd_prop.2 ⟨fun hlt => ⟨c.a, hb.at (i := 4) rfl, ?_⟩, fun hge => ?_⟩
 ·have hil : i < e.kids.length := by omega
  have hkp := kid_parts e _ (List.getElem_mem hil)
  refine ldX (hcv.fr (m.1.t hf)) i rfl (by omega) ?_
  refine ih _ (List.getElem_mem hil) ((hck i (by omega) hil).fr (m.1.t hf)) (by omega) fun w3 f3 => ⟨inR64 (by omega) (by omega), ⟨⟨rfl, trivial⟩, i + 1, by omega, by omega, hf.t f3, ?_⟩, by dsimp only; omega⟩
  rw [take_snoc Fm.depth _ hil, fold_snoc]
  omega
 ·have : i = e.kids.length := by omega
  subst this
  have hd := depth_parts e
  have he := depth_kids e
  rw [List.take_length]
  have e1 : (((e.kids.map Fm.depth).foldl max 0 : Nat) : Int) + 1 = (e.depth : Int) := by omega
  rw [e1]
  exact ⟨inR64 (by omega) (by omega), hK u (m.1.t hf)⟩
theorem RightF_spec {e : Fm} {c : XC} {K : Bool -> World -> Prop} (hx : XP w e c) (hp : e.parts <= 2 ^ 38) (hK : ∀ w', Fr F0 w w' -> K e.right w') : z01_sh c.op c.n c.d c.nm c.a K w := by
 refine ⟨?_⟩
 unfold z01_sd
 intro w1
 have m : Mem w w1 [(w.heap.size, _)] := Mem.nil.allocL (cs := encX c)
 clear_value w1
 have hbox := m.row 0 rfl
 have er : e.right = (e.sound && (decide (e.parts <= 60) && decide (e.depth <= 12))) := rfl
 refine ⟨_, hbox.at rfl, _, hbox.at rfl, _, hbox.at rfl, _, hbox.at rfl, c.a, hbox.at rfl, sound_spec e (hx.fr m.1) fun w2 f2 => ?_⟩
 have F2 := m.1.t f2
 have hb2 := f2.row hbox fun h => h
 refine cnd_iff.2 ⟨fun h1 => ?_, fun h1 => ?_⟩
 ·refine ⟨_, hb2.at rfl, _, hb2.at rfl, _, hb2.at rfl, _, hb2.at rfl, c.a, hb2.at rfl, Parts_spec e (hx.fr F2) hp fun w3 f3 => ?_⟩
  have F3 := F2.t f3
  have hb3 := f3.row hb2 fun h => h
  refine cnd_prop.2 ⟨fun h2 => ?_, fun h2 => ?_⟩
  ·refine ⟨_, hb3.at rfl, _, hb3.at rfl, _, hb3.at rfl, _, hb3.at rfl, c.a, hb3.at rfl, Depth_spec e (hx.fr F3) hp fun w4 f4 => ?_⟩
   have : decide ((e.depth : Int) <= 12) = e.right := by
    rw [er, h1, decide_eq_true (show e.parts <= 60 by omega), Bool.true_and, Bool.true_and, decide_eq_decide]
    omega
   rw [this]
   exact hK w4 (F3.t f4)
  ·have : e.right = false := by rw [er, decide_eq_false (show ¬ e.parts <= 60 by omega)]; simp
   rw [← this]
   exact hK w3 F3
 ·have : e.right = false := by rw [er, h1]; rfl
  rw [← this]
  exact hK w2 F2
theorem names_spec (e : Fm) : ∀ {c : XC} {w : World} {s : Sl} {m : List B} {K : Sl -> World -> Prop}, XP w e c -> Vw 1 encB w s m -> m.length + e.parts <= 2 ^ 40 -> (∀ w' r, Fr F0 w w' -> Vw 1 encB w' r (nmA m e) -> (∀ b, inB r b -> inB s b \/ w.heap.size <= b) -> K r w') -> z16_sh c.op c.n c.d c.nm c.a s K w := by
 refine Fm.kidInd (P := fun e => ∀ {c : XC} {w : World} {s : Sl} {m : List B} {K : Sl -> World -> Prop}, XP w e c -> Vw 1 encB w s m -> m.length + e.parts <= 2 ^ 40 -> (∀ w' r, Fr F0 w w' -> Vw 1 encB w' r (nmA m e) -> (∀ b, inB r b -> inB s b \/ w.heap.size <= b) -> K r w') -> z16_sh c.op c.n c.d c.nm c.a s K w) (fun e ih c w s l K hx hv hp hK => ?_) e
 obtain ⟨cs, hcv, hcl, hck⟩ := hx.kids
 have hea : c.a.l = e.kids.length := by rw [hcv.len, hcl]
 have h2 := kids_two e
 refine z16_mk _ _ _ _ _ _ _ _ _ _ ?_
 unfold z16_sd
 intro w1
 have m : Mem w w1 [(w.heap.size, _)] := Mem.nil.allocL (cs := encX c)
 clear_value w1
 have hbox := m.row 0 rfl
 have hv := hv.fr m.1
 -- the arguments, one behind the other
 have kids : ∀ {u : World}, Fr F0 w1 u -> nm1 l e = l -> z16_k0 s ⟨w.heap.size, 0, none⟩ K u := fun {u} hf hn => by
  refine ⟨⟨⟨fun r i u => ∃ i' : Nat, i = i' /\ i' <= e.kids.length /\ Fr F0 w1 u /\ Vw 1 encB u r ((e.kids.take i').foldl nmA l) /\ ∀ b, inB r b -> inB s b \/ w.heap.size <= b, fun _ i _ => e.kids.length - i.toNat, ⟨0, rfl, by omega, hf, by simpa using hv.fr hf, fun _ h => .inl h⟩, ?_⟩⟩⟩
  rintro r i u ⟨i, rfl, hi, hf, hr, hin⟩
  unfold z16_b1
  have hb := hf.row hbox fun h => h
  refine ⟨c.a, hb.at (i := 4) rfl, ?_⟩
  rw [hea]
  refine cnd_prop.2 ⟨fun hlt => ⟨c.a, hb.at (i := 4) rfl, ?_⟩, fun hge => ?_⟩
  ·have hil : i < e.kids.length := by omega
   have hacc := kid_acc e l i hil
   refine ldX (hcv.fr (m.1.t hf)) i rfl (by omega) ?_
   refine ih _ (List.getElem_mem hil) ((hck i (by omega) hil).fr (m.1.t hf)) hr (by omega) fun w3 r3 f3 v3 n3 => ⟨inR64 (by omega) (by omega), ⟨⟨rfl, trivial⟩, i + 1, by omega, by omega, hf.t f3, ?_, fun b hb => ?_⟩, by dsimp only; omega⟩
   ·rw [List.take_add_one, List.getElem?_eq_getElem hil, List.foldl_append]
    exact v3
   ·rcases n3 b hb with h | h
    ·exact hin b h
    ·exact .inr (Nat.le_trans (Nat.le_trans m.1.1 hf.1) h)
  ·have : i = e.kids.length := by omega
   subst this
   rw [List.take_length] at hr
   refine hK u r (m.1.t hf) ?_ hin
   have e1 : nm1 (e.kids.foldl nmA l) e = e.kids.foldl nmA l := by
    cases e with
    | num _ _ => rfl
    | name _ => exact hn
    | op _ _ _ => rfl
   rw [nmA_kids, e1]
   exact hr
 refine ⟨_, hbox.at rfl, ?_⟩
 rcases name_or e with ⟨nn, rfl⟩ | ⟨hn1, hn2⟩
 ·obtain ⟨hxe, h20⟩ := hx
  subst hxe
  have ee : decide (ofL wName = str [110, 97, 109, 101]) = true := by decide
  rw [ee, cnd_true]
  have hpp : (Fm.name nn).parts = 1 := rfl
  refine ⟨_, hbox.at rfl, rhas3_spec hv (by omega) (cnd_iff.2 ⟨fun h => ?_, fun h => ?_⟩)⟩
  ·have hnin : nn ∉ l := by simpa using h
   have en : nmA l (.name nn) = l ++ [nn] := addB_new hnin
   rw [en] at hK
   intro w6
   have f6 : Fr F0 w1 w6 := Fr.drew
   clear_value w6
   have hb6 := f6.row hbox fun h => h
   refine ⟨fun u => Fr F0 w6 u, Fr.refl, ofL nn, fun u hu => (hu.row hb6 fun h => h).at rfl, ?_, ?_⟩
   ·intro w9
    have r9 : Row w9 w6.heap.size [] := Row.new (cs := [])
    have f9 : Fr F0 w6 w9 := Fr.alloc
    clear_value w9
    refine ⟨f9, fun u u' h hs => hs.t h.f0, ⟨fun u => ExtL.alloc, trivial⟩, fun w10 e10 => ?_⟩
    have f10 := e10.f0
    refine copy0 encB_length (f10.row r9 fun h => h) (hv.fr (f6.t (f9.t f10))) encB_ok rfl (by omega) (by omega) fun s11 w12 o11 f12 i11 => ⟨f12.ext, fun w13 e13 w14 e14 _ g14 => ?_⟩
    have rx0 : Vw 1 encB (w14.alloc (Obj.cells #[Value.string (ofL nn)] 9)) ⟨some ⟨w14.heap.size, 0, none⟩, 1, 1⟩ [nn] := Vw.new rfl rfl
    have rx := rx0.fr g14.f0
    have F13 : Fr F0 w6 w13 := f9.t (f10.t (f12.t e13.f0))
    have lb : ∀ b, inB s11 b -> w6.heap.size <= b := fun b hb => by
     have := f9.1
     have := f10.1
     rcases i11 b hb with h | h
     ·omega
     ·omega
    refine (o11.fr e13.f0).app rx encB_ok rfl (by simp; omega) (by simp; omega) fun s15 w16 o15 f16 i15 => ?_
    have F16 : Fr F0 w6 w16 := F13.nb f16 lb
    refine ⟨F16, hK w16 s15 (m.1.t (f6.t F16)) o15.vw fun b hb => .inr ?_⟩
    have := m.1.1; have := f6.1; have := F13.1
    rcases i15 b hb with h | h
    ·have := lb b h; omega
    ·omega
   ·intro w17
    have r17 : Row w17 w6.heap.size ([nn].flatMap encB) := Row.new
    have f17 : Fr F0 w6 w17 := Fr.alloc
    clear_value w17
    refine ⟨f17, ?_⟩
    intro w18
    have r18 : Row w18 w17.heap.size [] := Row.new (cs := [])
    have f18 : Fr F0 w17 w18 := Fr.alloc
    clear_value w18
    have F18 := f17.t f18
    refine ⟨F18, copy0 encB_length r18 (hv.fr (f6.t F18)) encB_ok rfl (by omega) (by omega) fun s19 w20 o19 f20 i19 => ⟨F18.t f20, ?_⟩⟩
    have rx : Vw 1 encB w20 ⟨some ⟨w6.heap.size, 0, none⟩, 1, 1⟩ [nn] := (Row.ow encB_length (l := [nn]) ((f18.t f20).row r17 fun h => h)).vw
    have lb : ∀ b, inB s19 b -> w6.heap.size <= b := fun b hb => by
     have := f17.1
     have := f18.1
     rcases i19 b hb with h | h
     ·omega
     ·omega
    refine o19.app rx encB_ok rfl (by simp; omega) (by simp; omega) fun s21 w22 o21 f22 i21 => ?_
    have F22 : Fr F0 w6 w22 := (F18.t f20).nb f22 lb
    refine ⟨F22, hK w22 s21 (m.1.t (f6.t F22)) o21.vw fun b hb => .inr ?_⟩
    have := m.1.1; have := f6.1; have := (F18.t f20).1
    rcases i21 b hb with h | h
    ·have := lb b h; omega
    ·omega
  ·have hin : nn ∈ l := by simpa using h
   exact kids Fr.refl (addB_in hin)
 ·rw [hn2 hx, cnd_false]
  exact kids Fr.refl (hn1 l)
theorem rNames_spec {e : Fm} {c : XC} {K : Sl -> World -> Prop} (hx : XP w e c) (hp : e.parts <= 2 ^ 38) (hK : ∀ w' r l, Fr F0 w w' -> Vw 1 encB w' r l -> (∀ b, inB r b -> w.heap.size <= b) -> (∀ x, x ∈ l ↔ x ∈ e.namesR) -> l.length <= e.parts -> K r w') : z15_sh c.op c.n c.d c.nm c.a K w := by
 refine ⟨?_⟩
 unfold z15_sd
 intro w1
 have m : Mem w w1 [(w.heap.size, _)] := Mem.nil.allocL (cs := encX c)
 clear_value w1
 have hbox := m.row 0 rfl
 refine ⟨_, hbox.at rfl, _, hbox.at rfl, _, hbox.at rfl, _, hbox.at rfl, c.a, hbox.at rfl, RightF_spec (hx.fr m.1) hp fun w2 f2 => ?_⟩
 have F2 := m.1.t f2
 have hb2 := f2.row hbox fun h => h
 refine cnd_iff.2 ⟨fun h => ?_, fun h => ?_⟩
 ·have hr : e.right = false := by simpa using h
  refine hK w2 _ [] F2 Vw.nil (fun b ⟨a, ha, _⟩ => by cases ha) (fun x => ?_) (by simp)
  unfold Fm.namesR
  rw [hr]
  simp
 ·have hr : e.right = true := by simpa using h
  refine ⟨_, hb2.at rfl, _, hb2.at rfl, _, hb2.at rfl, _, hb2.at rfl, c.a, hb2.at rfl, names_spec e (hx.fr F2) Vw.nil (by simp; omega) fun w3 r f3 v3 n3 => ?_⟩
  refine hK w3 r _ (F2.t f3) v3 (fun b hb => (n3 b hb).elim (fun ⟨a, ha, _⟩ => by cases ha) fun h => Nat.le_trans F2.1 h) (fun x => ?_) (by simpa using nmA_len e [])
  rw [mem_nmA]
  unfold Fm.namesR
  rw [hr]
  simp
theorem rSame_spec (a : Fm) : ∀ {b : Fm} {c d : XC} {w : World} {K : Bool -> World -> Prop}, XP w a c -> XP w b d -> (∀ w', Fr F0 w w' -> K (decide (a = b)) w') -> z1g_sh c.op c.n c.d c.nm c.a d.op d.n d.d d.nm d.a K w := by
 refine Fm.kidInd (P := fun a => ∀ {b : Fm} {c d : XC} {w : World} {K : Bool -> World -> Prop}, XP w a c -> XP w b d -> (∀ w', Fr F0 w w' -> K (decide (a = b)) w') -> z1g_sh c.op c.n c.d c.nm c.a d.op d.n d.d d.nm d.a K w) (fun a ih b c d w K hx hy hK => ?_) a
 obtain ⟨cs, hcv, hcl, hck⟩ := hx.kids
 obtain ⟨ds, hdv, hdl, hdk⟩ := hy.kids
 have hea : c.a.l = a.kids.length := by rw [hcv.len, hcl]
 have heb : d.a.l = b.kids.length := by rw [hdv.len, hdl]
 have h2 := kids_two a
 obtain ⟨c1, c2, c3, c4⟩ := hx.head
 obtain ⟨d1, d2, d3, d4⟩ := hy.head
 have hab := fm_eq a b
 refine z1g_mk _ _ _ _ _ _ _ _ _ _ _ _ _ _ ?_
 unfold z1g_sd
 intro w1
 have m : Mem w w1 [(w.heap.size, _)] := Mem.nil.allocL (cs := encX c)
 clear_value w1
 intro w2
 have m : Mem w w2 [(w1.heap.size, _), (w.heap.size, _)] := m.allocL (cs := encX d)
 clear_value w2
 have hc := m.row 1 rfl
 have hd := m.row 0 rfl
 have no : ∀ {u : World}, Fr F0 w u -> ¬ a = b -> K false u := fun hf hn => by
  have := hK _ hf
  rw [decide_eq_false hn] at this
  exact this
 refine ⟨_, hc.at rfl, _, hd.at rfl, ?_⟩
 rw [c1, d1, ofL_dec]
 refine cnd_iff.2 ⟨fun h => no m.1 fun e => ?_, fun h1 => ?_⟩
 ·have := (hab.1 e).1
  simp [this] at h
 have h1 : hop a = hop b := by simpa using h1
 refine ⟨_, hc.at rfl, _, hc.at rfl, _, hd.at rfl, _, hd.at rfl, ?_⟩
 rw [c2, c3, d2, d3]
 refine cnd_iff.2 ⟨fun h => no m.1 fun e => ?_, fun h2' => ?_⟩
 ·obtain ⟨_, e1, e2, _⟩ := hab.1 e
  simp [e1, e2] at h
 have h2' : hnn a = hnn b /\ hdd a = hdd b := by simpa using h2'
 refine ⟨_, hc.at rfl, _, hd.at rfl, ?_⟩
 rw [c4, d4, ofL_dec]
 refine cnd_iff.2 ⟨fun h => no m.1 fun e => ?_, fun h3 => ?_⟩
 ·have := (hab.1 e).2.2.2.1
  simp [this] at h
 have h3 : hnm a = hnm b := by simpa using h3
 refine ⟨c.a, hc.at rfl, d.a, hd.at rfl, ?_⟩
 rw [hea, heb]
 refine cnd_bne.2 ⟨fun h => no m.1 fun e => ?_, fun h4 => ?_⟩
 ·have := (hab.1 e).2.2.2.2
  rw [this] at h
  exact h rfl
 have h4 : a.kids.length = b.kids.length := by omega
 refine ⟨⟨fun i u => ∃ i' : Nat, i = i' /\ i' <= a.kids.length /\ Fr F0 w2 u /\ a.kids.take i' = b.kids.take i', fun i _ => a.kids.length - i.toNat, ⟨0, rfl, by omega, Fr.refl, by simp⟩, ?_⟩⟩
 rintro i u ⟨i, rfl, hi, hf, he⟩
 unfold z1g_b0
 have hcu := hf.row hc fun h => h
 have hdu := hf.row hd fun h => h
 refine ⟨c.a, hcu.at (i := 4) rfl, ?_⟩
 rw [hea]
 refine cnd_prop.2 ⟨fun hlt => ?_, fun hge => ?_⟩
 ·have hil : i < a.kids.length := by omega
  have hib : i < b.kids.length := by omega
  intro w14
  have f14 : Fr F0 u w14 := Fr.drew
  clear_value w14
  have F14 := hf.t f14
  have hcu := f14.row hcu fun h => h
  have hdu := f14.row hdu fun h => h
  refine ⟨fun v => Fr F0 w14 v, Fr.refl, c.a, fun v hv => (hv.row hcu fun h => h).at rfl, Vw.goS encX_length (by decide) Fr.refl (fun v hv => hcv.fr (m.1.t (F14.t hv))) i rfl (by omega) fun _ hx' => ⟨_, hx' 0 _ rfl, _, hx' 1 _ rfl, _, hx' 2 _ rfl, _, hx' 3 _ rfl, cs[i].a, hx' 4 _ rfl, ?_⟩⟩
  refine ⟨d.a, fun v hv => (hv.row hdu fun h => h).at (i := 4) rfl, Vw.goS encX_length (by decide) Fr.refl (fun v hv => hdv.fr (m.1.t (F14.t hv))) i rfl (by omega) fun _ hy' => ⟨_, hy' 0 _ rfl, _, hy' 1 _ rfl, _, hy' 2 _ rfl, _, hy' 3 _ rfl, ds[i].a, hy' 4 _ rfl, ?_⟩⟩
  refine ih _ (List.getElem_mem hil) ((hck i (by omega) hil).fr (m.1.t F14)) ((hdk i (by omega) hib).fr (m.1.t F14)) fun w3 f3 => ⟨f3, cnd_iff.2 ⟨fun h => no (m.1.t (F14.t f3)) fun e => ?_, fun h => ?_⟩⟩
  ·have hk := (hab.1 e).2.2.2.2
   have : a.kids[i] = b.kids[i] := by simp only [hk]
   simp [this] at h
  ·have h : a.kids[i] = b.kids[i] := by simpa using h
   refine ⟨inR64 (by omega) (by omega), ⟨⟨rfl, rfl, trivial⟩, i + 1, by omega, by omega, F14.t f3, ?_⟩, by dsimp only; omega⟩
   rw [List.take_add_one, List.take_add_one, List.getElem?_eq_getElem hil, List.getElem?_eq_getElem hib, he, h]
 ·have : i = a.kids.length := by omega
  subst this
  rw [List.take_length, h4, List.take_length] at he
  have := hK u (m.1.t hf)
  rw [decide_eq_true (hab.2 ⟨h1, h2'.1, h2'.2, h3, he⟩)] at this
  exact this
end
end Go.Proofs.YtfkmpbpkahcogaaGreatDoor
