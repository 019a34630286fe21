/- Slices that read as lists, and lists of one's own that grow. Conditions: none. -/
import Derived.Test.YtfclokkfnkieoaaGreatDoorPwN
namespace Pw
open Go

theorem fm_length {α : Type} {n : Nat} {enc : α → List Value} (hn : ∀ a, (enc a).length = n) : ∀ l : List α, (l.flatMap enc).length = l.length * n
  | [] => by simp
  | a :: l => by simp [fm_length hn l, hn, Nat.add_mul, Nat.add_comm]

theorem fm_at {α : Type} {n : Nat} {enc : α → List Value} (hn : ∀ a, (enc a).length = n) : ∀ (l : List α) (i k : Nat) (a : α), l[i]? = some a → k < n → (l.flatMap enc)[i * n + k]? = (enc a)[k]?
  | [], i, k, a, h, _ => by simp at h
  | b :: l, 0, k, a, h, hk => by
    simp at h
    subst h
    simp only [List.flatMap_cons, Nat.zero_mul, Nat.zero_add]
    rw [List.getElem?_append_left (by rw [hn]; exact hk)]
  | b :: l, i + 1, k, a, h, hk => by
    simp only [List.getElem?_cons_succ] at h
    have := fm_at hn l i k a h hk
    simp only [List.flatMap_cons]
    rw [List.getElem?_append_right (by rw [hn, Nat.add_mul]; omega), hn, ← this]
    congr 1
    rw [Nat.add_mul]; omega

theorem fm_one {α : Type} (g : α → Value) : ∀ l : List α, l.flatMap (fun a => [g a]) = l.map g
  | [] => rfl
  | a :: l => by simp [fm_one g l]

/-- The slice reads as a list, each element laid in n cells. -/
structure Vw {α : Type} (n : Nat) (enc : α → List Value) (w : World) (s : Sl) (l : List α) : Prop where
  len : s.l = l.length
  cap : s.l ≤ s.c
  rd : rdC w s.p (s.l * n) (l.flatMap enc)

section
variable {α : Type} {n : Nat} {enc : α → List Value} {w w' w0 : World} {s x : Sl} {l m : List α}

theorem Vw.fr (h : Vw n enc w s l) (hf : Fr F0 w w') : Vw n enc w' s l := ⟨h.len, h.cap, rdC_fr h.rd hf fun _ _ hh => hh⟩

theorem Vw.frF {F : Nat → Prop} (h : Vw n enc w s l) (hf : Fr F w w') (hd : ∀ b, inB s b → ¬ F b) : Vw n enc w' s l := ⟨h.len, h.cap, rdC_fr h.rd hf fun a ha => hd _ ⟨a, ha, rfl⟩⟩

theorem Vw.nil : Vw n enc w ⟨none, 0, 0⟩ ([] : List α) := ⟨rfl, Nat.le_refl _, by simp [rdC]⟩

/-- The cells of an element. -/
theorem Vw.at (h : Vw n enc w s l) (hn : ∀ a, (enc a).length = n) {i : Nat} {a : α} (hi : l[i]? = some a) : (0 < n → ∃ ad, s.p = some ad ∧ ∀ k v, (enc a)[k]? = some v → w.cell? ((ad.add (i * n)).add k) = some v) := by
  intro hn0
  have hlt : i < l.length := (List.getElem?_eq_some_iff.1 hi).1
  obtain ⟨hlen, hrd⟩ := h.rd
  have hl := h.len
  have hpos : 0 < s.l * n := Nat.mul_pos (by omega) hn0
  cases hp : s.p with
  | none =>
    rw [hp] at hrd
    simp only at hrd
    omega
  | some ad =>
    rw [hp] at hrd
    simp only at hrd
    refine ⟨ad, rfl, fun k v hv => ?_⟩
    have hk : k < n := by
      have := (List.getElem?_eq_some_iff.1 hv).1
      rw [hn] at this
      exact this
    have h1 := fm_at hn l i k a hi hk
    rw [hv] at h1
    obtain ⟨h2, h3⟩ := List.getElem?_eq_some_iff.1 h1
    have := hrd _ h2
    rw [h3] at this
    rw [add_add]
    exact this

theorem Vw.ne (h : Vw n enc w s l) (hn : ∀ a, (enc a).length = n) (hn0 : 0 < n) (hl : 0 < l.length) : ∃ ad, s.p = some ad := by
  obtain ⟨ad, h1, _⟩ := h.at hn (List.getElem?_eq_getElem hl) hn0
  exact ⟨ad, h1⟩

/-- The front of a slice. -/
theorem Vw.take (h : Vw n enc w s l) (hn : ∀ a, (enc a).length = n) {j : Nat} (hj : j ≤ l.length) : Vw n enc w ⟨subP s.p 0 s.c n, j - 0, s.c - 0⟩ (l.take j) := by
  have hl := h.len
  have hc := h.cap
  refine ⟨by simp; omega, by simp; omega, ?_⟩
  simp only [Nat.sub_zero]
  have hlen : ((l.take j).flatMap enc).length = j * n := by rw [fm_length hn]; simp; rw [Nat.min_eq_left hj]
  refine ⟨hlen, ?_⟩
  have hp : subP s.p 0 s.c n = s.p := by
    unfold subP
    split
    · rfl
    · cases s.p with
      | none => rfl
      | some a => simp [Addr.add]
  rw [hp]
  obtain ⟨h1, h2⟩ := h.rd
  have hpre : (l.take j).flatMap enc = (l.flatMap enc).take (j * n) := by
    have h3 : l.flatMap enc = (l.take j).flatMap enc ++ (l.drop j).flatMap enc := by rw [← List.flatMap_append, List.take_append_drop]
    rw [h3, List.take_append_of_le_length (by omega)]
    exact (List.take_of_length_le (by omega)).symm
  cases hs : s.p with
  | none =>
    rw [hs] at h2
    simp only at h2 ⊢
    rw [hl] at h2
    have := Nat.mul_le_mul_right n hj
    omega
  | some a =>
    rw [hs] at h2
    simp only at h2 ⊢
    intro i hi
    have h3 := h2 i (by rw [fm_length hn]; have := Nat.mul_le_mul_right n hj; omega)
    rw [h3]
    congr 1
    have h4 : ((l.take j).flatMap enc)[i]? = ((l.flatMap enc).take (j * n))[i]? := by rw [hpre]
    rw [List.getElem?_take, if_pos (by omega)] at h4
    rw [List.getElem?_eq_getElem hi, List.getElem?_eq_getElem (by rw [fm_length hn]; have := Nat.mul_le_mul_right n hj; omega)] at h4
    exact (Option.some.inj h4).symm

/-- A slice of one's own. -/
structure Ow {α : Type} (n : Nat) (enc : α → List Value) (w : World) (s : Sl) (l : List α) : Prop where
  len : s.l = l.length
  own : OwnV n w s (l.flatMap enc)

theorem Ow.vw (h : Ow n enc w s l) : Vw n enc w s l := by
  refine ⟨h.len, ?_, h.own.rd⟩
  obtain ⟨_, h1 | ⟨_, _, _, _, _, h2, _⟩⟩ := h.own
  · omega
  · exact h2

theorem Ow.fr (h : Ow n enc w s l) (hf : Fr F0 w w') : Ow n enc w' s l := ⟨h.len, h.own.fr hf fun _ _ hh => hh⟩

theorem Ow.frF {F : Nat → Prop} (h : Ow n enc w s l) (hf : Fr F w w') (hd : ∀ b, inB s b → ¬ F b) : Ow n enc w' s l := ⟨h.len, h.own.fr hf hd⟩

theorem Ow.app {bytes : Nat} {zero : List Value} {e : Nat} {K : SW} (h : Ow n enc w s l) (hx : Vw n enc w x m) (hok : ∀ a, ∀ v ∈ enc a, okC v = true) (hz : zero.length = n)
    (hb : (l.length + m.length) * bytes ≤ 2 ^ 47) (hm : l.length + m.length < 2 ^ 63)
    (hK : ∀ r w', Ow n enc w' r (l ++ m) → Fr (inB s) w w' → (∀ b, inB r b → inB s b ∨ w.heap.size ≤ b) → K r w') : apS n bytes zero e s x w K := by
  have h1 := h.len
  have h2 := hx.len
  refine apS_own h.own hx.rd (fun v hv => ?_) hz (by rw [h1, h2]; exact hb) (by rw [h1, h2]; exact hm) fun r w' ho hr hf hi => hK r w' ⟨by rw [hr, h1, h2]; simp, by rw [List.flatMap_append]; exact ho⟩ hf hi
  obtain ⟨a, _, ha⟩ := List.mem_flatMap.1 hv
  exact hok a v ha

theorem Vw.new {a : α} {cs : Array Value} {e : TypeId} (hn : (enc a).length = n) (hc : cs = (enc a).toArray) : Vw n enc (w.alloc (Obj.cells cs e)) ⟨some ⟨w.heap.size, 0, none⟩, 1, 1⟩ [a] := by
  subst hc
  refine ⟨rfl, Nat.le_refl _, by simp [hn], ?_⟩
  intro i hi
  simp only [List.flatMap_cons, List.flatMap_nil, List.append_nil] at hi ⊢
  rw [add_mk, Nat.zero_add, (Row.new (w := w) (e := e) (cs := enc a)).cell]
  exact List.getElem?_eq_getElem hi

theorem Ow.new {a : α} {cs : Array Value} {e : TypeId} (hn : (enc a).length = n) (hc : cs = (enc a).toArray) : Ow n enc (w.alloc (Obj.cells cs e)) ⟨some ⟨w.heap.size, 0, none⟩, 1, 1⟩ [a] := by
  subst hc
  refine ⟨rfl, by simp [hn], .inr ⟨w.heap.size, enc a, rfl, Row.new, by simp [hn], Nat.le_refl _, by simp⟩⟩

/-- A slice of one's own, made since w0; what was there then is as it was. -/
structure Mk {α : Type} (w0 : World) (n : Nat) (enc : α → List Value) (w : World) (s : Sl) (l : List α) : Prop where
  fr0 : Fr F0 w0 w
  ow : Ow n enc w s l
  nw : ∀ b, inB s b → w0.heap.size ≤ b

theorem Mk.vw (h : Mk w0 n enc w s l) : Vw n enc w s l := h.ow.vw
theorem Mk.len (h : Mk w0 n enc w s l) : s.l = l.length := h.ow.len
theorem Mk.fr (h : Mk w0 n enc w s l) (hf : Fr F0 w w') : Mk w0 n enc w' s l := ⟨h.fr0.trans hf fun _ hb _ => hb, h.ow.fr hf, h.nw⟩
theorem Mk.nil (hf : Fr F0 w0 w) : Mk w0 n enc w ⟨none, 0, 0⟩ ([] : List α) := ⟨hf, ⟨rfl, by simpa using OwnV.nil⟩, fun b ⟨a, ha, _⟩ => by cases ha⟩
theorem Mk.new {a : α} {cs : Array Value} {e : TypeId} (hf : Fr F0 w0 w) (hn : (enc a).length = n) (hc : cs = (enc a).toArray) : Mk w0 n enc (w.alloc (Obj.cells cs e)) ⟨some ⟨w.heap.size, 0, none⟩, 1, 1⟩ [a] :=
  ⟨hf.trans (G := F0) Fr.alloc fun _ hb _ => hb, Ow.new hn hc, fun b ⟨a, ha, hb⟩ => by cases ha; subst hb; exact hf.1⟩

theorem Mk.app {bytes : Nat} {zero : List Value} {e : Nat} {K : SW} (h : Mk w0 n enc w s l) (hx : Vw n enc w x m) (hok : ∀ a, ∀ v ∈ enc a, okC v = true) (hz : zero.length = n)
    (hb : (l.length + m.length) * bytes ≤ 2 ^ 47) (hm : l.length + m.length < 2 ^ 63)
    (hK : ∀ r w', Mk w0 n enc w' r (l ++ m) → Fr (inB s) w w' → K r w') : apS n bytes zero e s x w K :=
  h.ow.app hx hok hz hb hm fun r w' ho hf hi => hK r w' ⟨h.fr0.trans hf fun b hb hlt => absurd (h.nw b hb) (by omega), ho, fun b hb => by
    rcases hi b hb with h1 | h1
    · exact h.nw b h1
    · exact Nat.le_trans h.fr0.1 h1⟩ hf

/-- append(s, a). -/
theorem Mk.push {a : α} {cs : Array Value} {bytes : Nat} {zero : List Value} {e e' : Nat} {K : SW} (h : Mk w0 n enc w s l) (hc : cs = (enc a).toArray) (hn : (enc a).length = n) (hok : ∀ a, ∀ v ∈ enc a, okC v = true) (hz : zero.length = n)
    (hb : (l.length + 1) * bytes ≤ 2 ^ 47) (hm : l.length + 1 < 2 ^ 63)
    (hK : ∀ r w', Mk w0 n enc w' r (l ++ [a]) → Fr (inB s) w w' → K r w') : apS n bytes zero e s ⟨some ⟨w.heap.size, 0, none⟩, 1, 1⟩ (w.alloc (Obj.cells cs e')) K := by
  have h' := h.fr (Fr.alloc (o := Obj.cells cs e'))
  refine h'.app (m := [a]) (Vw.new hn hc) hok hz hb hm fun r w' ho hf => hK r w' ho ?_
  exact (Fr.alloc (F := inB s)).trans hf fun b hb _ => hb

/-- make([]T, n). -/
theorem Mk.make {z : α} {bytes : Nat} {zero : List Value} {e : Nat} {k : Int} {K : SW} (hf : Fr F0 w0 w) (hz : zero = enc z) (hn : (enc z).length = n) (h0 : 0 ≤ k) (h1 : k < 2 ^ 63) (h2 : k * bytes ≤ 2 ^ 48)
    (hK : ∀ r w', Mk w0 n enc w' r (List.replicate k.toNat z) → Fr F0 w w' → K r w') : mkS bytes zero e k k w K := by
  subst hz
  have key : rowZ (enc z) (k.toNat * (enc z).length) = (List.replicate k.toNat z).flatMap enc := by
    generalize k.toNat = j
    clear h0 h1 h2 hK
    have hlen : ((List.replicate j z).flatMap enc).length = j * n := by
      clear hf
      induction j with
      | zero => simp
      | succ j ih => simp only [List.replicate_succ, List.flatMap_cons, List.length_append, ih, hn, Nat.add_mul]; omega
    apply List.ext_getElem
    · rw [rowZ_length, hlen, hn]
    · intro i h1 h2
      have hn0 : 0 < n := by
        rcases Nat.eq_zero_or_pos n with h | h
        · rw [rowZ_length, hn, h] at h1; omega
        · exact h
      rw [hlen] at h2
      have h3 : ∀ (j i : Nat), i < j * n → ((List.replicate j z).flatMap enc)[i]? = (enc z)[i % n]? := by
        intro j
        induction j with
        | zero => intro i hi; simp at hi
        | succ j ih =>
          intro i hi
          simp only [List.replicate_succ, List.flatMap_cons]
          rcases Nat.lt_or_ge i n with hin | hin
          · rw [List.getElem?_append_left (by omega), Nat.mod_eq_of_lt hin]
          · rw [List.getElem?_append_right (by omega), hn, ih _ (by rw [Nat.add_mul] at hi; omega), Nat.mod_eq_sub_mod hin]
      have h4 := h3 j i h2
      have h5 : i % n < (enc z).length := by rw [hn]; exact Nat.mod_lt _ hn0
      rw [List.getElem?_eq_getElem h5, List.getElem?_eq_getElem (by rw [hlen]; exact h2)] at h4
      rw [Option.some.inj h4]
      simp [rowZ, hn, Nat.mod_lt _ hn0]
  refine ⟨h0, Int.le_refl _, h1, h2, hK _ _ ⟨hf.trans (G := F0) Fr.alloc fun _ hb _ => hb, ⟨by simp [newSl], ?_⟩, fun b ⟨a, ha, hb⟩ => by cases ha; subst hb; exact hf.1⟩ Fr.alloc⟩
  rw [key]
  have hl : ((List.replicate k.toNat z).flatMap enc).length = k.toNat * n := by rw [← key, rowZ_length, hn]
  exact ⟨by simp [newSl, hl], .inr ⟨w.heap.size, _, rfl, Row.new, by simp [newSl, hl], Nat.le_refl _, List.take_of_length_le (Nat.le_refl _)⟩⟩
end

/-! Elements of one int. -/
def ie {α : Type} (k : IntKind) (f : α → Int) : α → List Value := fun a => [.int k (f a)]
@[simp] theorem ie_length {α : Type} (k : IntKind) (f : α → Int) (a : α) : (ie k f a).length = 1 := rfl
theorem ie_ok {α : Type} (k : IntKind) (f : α → Int) (a : α) : ∀ v ∈ ie k f a, okC v = true := by intro v hv; simp [ie] at hv; subst hv; rfl

section
variable {α : Type} {k : IntKind} {f : α → Int} {w w' w0 : World} {s x : Sl} {l m : List α}

theorem Vw.ld {i : Int} {K : Int → Prop} (d : α) (h : Vw 1 (ie k f) w s l) (i' : Nat) (hi : i = (i' : Int)) (h1 : i' < l.length) (hK : K (f (l.getD i' d))) :
    nz s.p fun a => (0 ≤ i ∧ i < (s.l : Nat)) ∧ ∃ x : Int, w.cell? (a.add (i.toNat * 1)) = some (Value.int k x) ∧ K x := by
  subst hi
  obtain ⟨ad, hp, hc⟩ := h.at (fun a => ie_length k f a) (List.getElem?_eq_getElem h1) (by decide)
  have hl := h.len
  rw [hp]
  refine ⟨⟨by omega, by omega⟩, _, hc 0 _ rfl, ?_⟩
  rw [List.getD_eq_getElem?_getD, List.getElem?_eq_getElem h1] at hK
  exact hK

theorem map_set_fm (g : α → Value) (l : List α) (i : Nat) (a : α) : (l.flatMap fun a => [g a]).set i (g a) = (l.set i a).flatMap fun a => [g a] := by
  rw [fm_one, fm_one, List.map_set]

/-- s[i] = a. -/
theorem Mk.st {i : Int} (h : Mk w0 1 (ie k f) w s l) (i' : Nat) (hi : i = (i' : Int)) (h1 : i' < l.length) :
    ∃ ad, s.p = some ad ∧ (0 ≤ i ∧ i < (s.l : Nat)) ∧ wrOk w (ad.add (i.toNat * 1)) ∧ ∀ a, Mk w0 1 (ie k f) (w.setCell (ad.add (i.toNat * 1)) (Value.int k (f a))) s (l.set i' a) ∧ Fr (inB s) w (w.setCell (ad.add (i.toNat * 1)) (Value.int k (f a))) := by
  subst hi
  obtain ⟨hl, hown⟩ := h.ow
  obtain ⟨hlen, hnil | ⟨b, cs, hp, hrow, hcs, hle, ht⟩⟩ := hown
  · omega
  · refine ⟨_, hp, ⟨by omega, by omega⟩, ?_⟩
    simp only [add_mk, Nat.mul_one, Nat.zero_add, Int.toNat_natCast]
    rw [fm_length (fun a => ie_length k f a)] at ht hlen
    have hi : i' < cs.length := by omega
    refine ⟨hrow.wr hi, fun a => ?_⟩
    have hfr : Fr (inB s) w (w.setCell ⟨b, i', none⟩ (Value.int k (f a))) := Fr.set ⟨_, hp, rfl⟩
    refine ⟨⟨h.fr0.trans hfr fun c hc hlt => absurd (h.nw c hc) (by omega), ⟨by simp [hl], ?_, .inr ⟨b, _, hp, hrow.set i' (Value.int k (f a)), by simp [hcs], hle, ?_⟩⟩, h.nw⟩, hfr⟩
    · rw [fm_length (fun a => ie_length k f a)]; simp [hl]
    · rw [fm_length (fun a => ie_length k f a)]
      simp only [List.length_set, Nat.mul_one] at ht ⊢
      rw [List.take_set, ht]
      exact map_set_fm (fun a => Value.int k (f a)) l i' a
end

theorem Fr.new {α : Type} {n : Nat} {enc : α → List Value} {w0 w w' : World} {s : Sl} {l : List α} (h : Mk w0 n enc w s l) (hf : Fr (inB s) w w') : Fr F0 w0 w' :=
  h.fr0.trans hf fun b hb hlt => absurd (h.nw b hb) (by omega)

theorem Fr0.t {w0 w w' : World} (h : Fr F0 w0 w) (h' : Fr F0 w w') : Fr F0 w0 w' := h.trans h' fun _ hb _ => hb
end Pw
