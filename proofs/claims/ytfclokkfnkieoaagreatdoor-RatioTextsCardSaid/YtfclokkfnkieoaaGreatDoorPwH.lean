/- Rows of cells, slices that own their row, and what changes: plain laws on worlds. Conditions: none. -/
import Derived.Test.YtfclokkfnkieoaaGreatDoorPwF
namespace Pw
open Go

theorem inR64 {n : Int} (h0 : -9223372036854775808 ≤ n) (h1 : n < 9223372036854775808) : inR .i64 n := wrap64_in h0 h1

@[simp] theorem add_mk (b o n : Nat) : (⟨b, o, none⟩ : Addr).add n = ⟨b, o + n, none⟩ := by
  unfold Addr.add
  by_cases h : n = 0 <;> simp [h]

def Row (w : World) (b : Nat) (cs : List Value) : Prop :=
  ∃ e f, w.heap[b]? = some (.cells cs.toArray e f) ∧ ∀ i, i < cs.length → ¬ (f.1 ≤ i ∧ i < f.2)

section
variable {w w' : World} {b : Nat} {cs : List Value}

theorem Row.lt (h : Row w b cs) : b < w.heap.size := by
  obtain ⟨e, f, h, _⟩ := h
  exact (Array.getElem?_eq_some_iff.1 h).1

theorem Row.cell (h : Row w b cs) (i : Nat) : w.cell? ⟨b, i, none⟩ = cs[i]? := by
  obtain ⟨e, f, h, _⟩ := h
  simp [World.cell?, h]

theorem Row.at (h : Row w b cs) {i : Nat} {v : Value} (hi : cs[i]? = some v) : w.cell? ⟨b, i, none⟩ = some v := by rw [h.cell, hi]

theorem Row.wr (h : Row w b cs) {i : Nat} (hi : i < cs.length) : wrOk w ⟨b, i, none⟩ := by
  refine ⟨⟨cs[i], by rw [h.cell]; simp [hi]⟩, ?_⟩
  obtain ⟨e, f, h, hf⟩ := h
  obtain ⟨lo, hi'⟩ := f
  have := hf i hi
  simp only [World.frozen?, h]
  simp only [not_and, Nat.not_lt] at this
  simp
  exact this

theorem Row.congr (h : Row w b cs) (he : w'.heap[b]? = w.heap[b]?) : Row w' b cs := by
  obtain ⟨e, f, h, hf⟩ := h
  exact ⟨e, f, by rw [he, h], hf⟩

theorem heap_set_ne {a : Addr} {v : Value} (h : a.block ≠ b) : (w.setCell a v).heap[b]? = w.heap[b]? := by
  simp [World.setCell, Array.getElem?_modify, h]

theorem Row.set (h : Row w b cs) (i : Nat) (v : Value) : Row (w.setCell ⟨b, i, none⟩ v) b (cs.set i v) := by
  obtain ⟨e, f, h, hf⟩ := h
  refine ⟨e, f, ?_, by simpa using hf⟩
  simp [World.setCell, Array.getElem?_modify, h]

theorem heap_alloc_lt {o : Obj} (h : b < w.heap.size) : (w.alloc o).heap[b]? = w.heap[b]? := by
  have : b ≠ w.heap.size := by omega
  show (w.heap.push o)[b]? = _
  simp [Array.getElem?_push, this]

theorem Row.new {e : TypeId} : Row (w.alloc (.cells cs.toArray e)) w.heap.size cs :=
  ⟨e, (0, 0), by show (w.heap.push _)[w.heap.size]? = _; simp, by simp⟩

theorem Row.newF {e : TypeId} {n : Nat} (h : cs.length ≤ n) : Row (w.alloc (.cells cs.toArray e (n, n + 1))) w.heap.size cs :=
  ⟨e, (n, n + 1), by show (w.heap.push _)[w.heap.size]? = _; simp, fun i hi => by simp; omega⟩
end

/-- Nothing that was there has changed but in the blocks F. -/
def Fr (F : Nat → Prop) (w w' : World) : Prop := w.heap.size ≤ w'.heap.size ∧ (∀ b, b < w.heap.size → ¬ F b → w'.heap[b]? = w.heap[b]?) ∧ w'.os = w.os ∧ w'.output = w.output ∧ w'.tape = w.tape

section
variable {F G : Nat → Prop} {w w1 w2 : World}
theorem Fr.refl : Fr F w w := ⟨Nat.le_refl _, fun _ _ _ => rfl, rfl, rfl, rfl⟩
theorem Fr.mono (h : Fr F w w1) (hg : ∀ b, F b → G b) : Fr G w w1 := ⟨h.1, fun b hb hn => h.2.1 b hb fun hf => hn (hg b hf), h.2.2⟩
/-- What is new may change. -/
theorem Fr.trans (h : Fr F w w1) (h' : Fr G w1 w2) (hg : ∀ b, G b → b < w.heap.size → F b) : Fr F w w2 :=
  ⟨Nat.le_trans h.1 h'.1, fun b hb hn => by rw [h'.2.1 b (Nat.lt_of_lt_of_le hb h.1) (fun hG => hn (hg b hG hb)), h.2.1 b hb hn], by rw [h'.2.2.1, h.2.2.1], by rw [h'.2.2.2.1, h.2.2.2.1], by rw [h'.2.2.2.2, h.2.2.2.2]⟩
theorem Fr.drew : Fr F w w.drew := ⟨Nat.le_refl _, fun _ _ _ => rfl, rfl, rfl, rfl⟩
theorem Fr.alloc {o : Obj} : Fr F w (w.alloc o) := ⟨by simp, fun _ hb _ => heap_alloc_lt hb, rfl, rfl, rfl⟩
theorem Fr.set {a : Addr} {v : Value} (h : F a.block) : Fr F w (w.setCell a v) := ⟨by simp, fun b _ hn => heap_set_ne fun he => hn (he ▸ h), rfl, rfl, rfl⟩
theorem Fr.row {b : Nat} {cs : List Value} (h : Fr F w w1) (hr : Row w b cs) (hb : ¬ F b) : Row w1 b cs := hr.congr (h.2.1 b hr.lt hb)
end

/-- The cells after some have been written over. -/
def splice (cs : List Value) (o : Nat) (vs : List Value) : List Value := cs.take o ++ vs ++ cs.drop (o + vs.length)

theorem splice_cons (cs : List Value) (o : Nat) (v : Value) (vs : List Value) (h : o < cs.length) : splice (cs.set o v) (o + 1) vs = splice cs o (v :: vs) := by
  unfold splice
  apply List.ext_getElem?
  intro i
  by_cases h1 : i < o
  · simp [List.getElem?_append, List.getElem?_take, List.getElem?_set, h, h1]
    have : i < o + 1 := by omega
    have h2 : ¬ o = i := by omega
    have h3 : min (o + 1) cs.length = o + 1 := by omega
    have h4 : min o cs.length = o := by omega
    simp [h3, h4, this, h1, h2]
  · have h3 : min (o + 1) cs.length = o + 1 := by omega
    have h4 : min o cs.length = o := by omega
    by_cases h2 : i = o
    · subst h2
      simp [List.getElem?_append, h3, h4]
    · obtain ⟨k, rfl⟩ : ∃ k, i = o + 1 + k := ⟨i - (o + 1), by omega⟩
      have e1 : o + 1 + k - (o + 1) = k := by omega
      have e2 : o + 1 + k - o = k + 1 := by omega
      have e3 : ¬ (o + 1 + k < o + 1) := by omega
      have e4 : ¬ (o + 1 + k < o) := by omega
      simp [List.getElem?_append, List.getElem?_set, h3, h4, e1, e2, e3, e4]
      by_cases h5 : k < vs.length
      · simp [h5]
      · simp [h5]
        have : ¬ o = o + 1 + vs.length + (k - vs.length) := by omega
        simp [this]
        congr 1
        omega

theorem splice_nil (cs : List Value) (o : Nat) : splice cs o [] = cs := by simp [splice]

theorem splice_length (cs : List Value) (o : Nat) (vs : List Value) (h : o + vs.length ≤ cs.length) : (splice cs o vs).length = cs.length := by
  simp [splice]; omega

theorem wrC_size {a : Addr} : ∀ (vs : List Value) (i : Nat) (w : World), (wrC w a i vs).heap.size = w.heap.size
  | [], _, _ => rfl
  | v :: vs, i, w => by simp only [wrC]; rw [wrC_size vs]; simp

theorem wrC_os {a : Addr} : ∀ (vs : List Value) (i : Nat) (w : World), (wrC w a i vs).os = w.os
  | [], _, _ => rfl
  | v :: vs, i, w => by simp only [wrC]; rw [wrC_os vs]; rfl

theorem wrC_tape {a : Addr} : ∀ (vs : List Value) (i : Nat) (w : World), (wrC w a i vs).tape = w.tape
  | [], _, _ => rfl
  | v :: vs, i, w => by simp only [wrC]; rw [wrC_tape vs]; rfl

theorem wrC_out {a : Addr} : ∀ (vs : List Value) (i : Nat) (w : World), (wrC w a i vs).output = w.output
  | [], _, _ => rfl
  | v :: vs, i, w => by simp only [wrC]; rw [wrC_out vs]; rfl

theorem add_block (a : Addr) (n : Nat) : (a.add n).block = a.block := by unfold Addr.add; split <;> rfl

theorem wrC_ne {a : Addr} {b : Nat} (h : a.block ≠ b) : ∀ (vs : List Value) (i : Nat) (w : World), (wrC w a i vs).heap[b]? = w.heap[b]?
  | [], _, _ => rfl
  | v :: vs, i, w => by
    simp only [wrC]
    rw [wrC_ne h vs, heap_set_ne (by rw [add_block]; exact h)]

theorem wrC_row {b o : Nat} : ∀ (vs : List Value) (i : Nat) (w : World) (cs : List Value), Row w b cs → o + i + vs.length ≤ cs.length → Row (wrC w ⟨b, o, none⟩ i vs) b (splice cs (o + i) vs)
  | [], i, w, cs, h, _ => by simpa [wrC, splice_nil] using h
  | v :: vs, i, w, cs, h, hl => by
    simp only [List.length_cons] at hl
    simp only [wrC, add_mk]
    have := wrC_row (o := o) vs (i + 1) _ _ (h.set (o + i) v) (by simp; omega)
    rw [show o + (i + 1) = o + i + 1 by omega, splice_cons _ _ _ _ (by omega)] at this
    exact this

/-- A slice that has a row of its own, from its first cell on. -/
def OwnV (size : Nat) (w : World) (s : Sl) (vs : List Value) : Prop :=
  vs.length = s.l * size ∧ ((s.p = none ∧ s.l = 0 ∧ s.c = 0) ∨ ∃ b cs, s.p = some ⟨b, 0, none⟩ ∧ Row w b cs ∧ cs.length = s.c * size ∧ s.l ≤ s.c ∧ cs.take vs.length = vs)

def inB (s : Sl) (b : Nat) : Prop := ∃ a, s.p = some a ∧ a.block = b

section
variable {size : Nat} {w w' : World} {s x : Sl} {vs us : List Value}

theorem OwnV.congr (h : OwnV size w s vs) (hc : ∀ b, inB s b → w'.heap[b]? = w.heap[b]?) : OwnV size w' s vs := by
  obtain ⟨hl, h | ⟨b, cs, hp, hr, h⟩⟩ := h
  · exact ⟨hl, .inl h⟩
  · exact ⟨hl, .inr ⟨b, cs, hp, hr.congr (hc b ⟨_, hp, rfl⟩), h⟩⟩

theorem OwnV.lt (h : OwnV size w s vs) {b : Nat} (hb : inB s b) : b < w.heap.size := by
  obtain ⟨a, ha, rfl⟩ := hb
  obtain ⟨hl, h | ⟨b, cs, hp, hr, h⟩⟩ := h
  · rw [h.1] at ha; cases ha
  · rw [hp] at ha; cases ha; exact hr.lt

theorem OwnV.fr {F : Nat → Prop} (h : OwnV size w s vs) (hf : Fr F w w') (hn : ∀ b, inB s b → ¬ F b) : OwnV size w' s vs :=
  h.congr fun b hb => hf.2.1 b (h.lt hb) (hn b hb)

theorem OwnV.rd (h : OwnV size w s vs) : rdC w s.p (s.l * size) vs := by
  obtain ⟨hl, h | ⟨b, cs, hp, hr, hc, hle, ht⟩⟩ := h
  · refine ⟨hl, ?_⟩
    rw [h.1]
    simp [h.2.1]
  · refine ⟨hl, ?_⟩
    rw [hp]
    intro i hi
    simp only [add_mk, Nat.zero_add]
    rw [hr.cell]
    have h1 : (cs.take vs.length)[i]? = vs[i]? := by rw [ht]
    rw [List.getElem?_take] at h1
    simp [hi] at h1
    simp [h1]

theorem OwnV.len (h : OwnV size w s vs) : vs.length = s.l * size := h.1

theorem OwnV.nil : OwnV size w ⟨none, 0, 0⟩ [] := ⟨by simp, .inl ⟨rfl, rfl, rfl⟩⟩

theorem rowZ_length (zero : List Value) (n : Nat) : (rowZ zero n).length = n := by simp [rowZ]

theorem rdC_fr {F : Nat → Prop} {p : Option Addr} {n : Nat} (h : rdC w p n vs) (hf : Fr F w w') (hn : ∀ a, p = some a → ¬ F a.block) : rdC w' p n vs := by
  obtain ⟨hl, h⟩ := h
  refine ⟨hl, ?_⟩
  cases p with
  | none => exact h
  | some a =>
    intro i hi
    have h1 := h i hi
    have hlt : a.block < w.heap.size := by
      have := World.block_lt_of_cell? _ _ h1
      rwa [add_block] at this
    have h2 := hf.2.1 a.block hlt (hn a rfl)
    unfold World.cell? at h1 ⊢
    rw [add_block] at h1 ⊢
    rw [h2]
    exact h1

/-- append to a slice that has a row of its own. -/
theorem apG_own {bytes : Nat} {zero : List Value} {e n : Nat} {K : SW} (h : OwnV size w s vs) (hu : us.length = n * size) (hz : zero.length = size)
    (hb : (s.l + n) * bytes ≤ 2 ^ 47) (hn : s.l + n < 2 ^ 63)
    (hK : ∀ r w', OwnV size w' r (vs ++ us) → r.l = s.l + n → Fr (inB s) w w' → (∀ b, inB r b → inB s b ∨ w.heap.size ≤ b) → K r w') :
    apG size bytes zero e s n us w K := by
  have hrd := h.rd
  obtain ⟨hl, h⟩ := h
  constructor
  · intro hc
    rcases h with ⟨hp, hl0, hc0⟩ | ⟨b, cs, hp, hr, hcs, hle, ht⟩
    · rw [hp]
      have hn0 : n = 0 := by omega
      subst hn0
      have : us = [] := List.eq_nil_of_length_eq_zero (by simpa using hu)
      subst this
      have hvs : vs = [] := List.eq_nil_of_length_eq_zero (by rw [hl, hl0]; simp)
      subst hvs
      refine hK _ _ ⟨by simp [hl0], .inl ⟨rfl, by simp [hl0], hc0⟩⟩ rfl Fr.refl fun b hb => ?_
      obtain ⟨a, ha, _⟩ := hb
      cases ha
    · rw [hp]
      simp only [add_mk, Nat.zero_add]
      have hfit : s.l * size + us.length ≤ cs.length := by
        rw [hu, hcs, ← Nat.add_mul]
        exact Nat.mul_le_mul_right _ hc
      refine ⟨fun i hi => ?_, ?_⟩
      · simp only [add_mk]
        exact hr.wr (by omega)
      · have hrow := wrC_row us 0 w cs hr (o := s.l * size) (by omega)
        simp only [Nat.add_zero] at hrow
        refine hK _ _ ⟨by simp [hl, hu, Nat.add_mul], .inr ⟨b, _, rfl, hrow, by rw [splice_length _ _ _ hfit, hcs], hc, ?_⟩⟩ rfl ⟨by rw [wrC_size]; exact Nat.le_refl _, fun c _ hn => wrC_ne (a := ⟨b, s.l * size, none⟩) (fun he => hn ⟨_, hp, he⟩) _ _ _, wrC_os _ _ _, wrC_out _ _ _, wrC_tape _ _ _⟩ fun c hc => ?_
        · rw [← hl]
          unfold splice
          have : cs.take vs.length = vs := ht
          rw [this, List.take_append_of_le_length (by simp)]
          exact List.take_of_length_le (by simp)
        · obtain ⟨a, ha, rfl⟩ := hc
          cases ha
          exact .inl ⟨_, hp, rfl⟩
  · intro hc
    refine ⟨hb, hn, vs, hrd, fun cap hcap => ?_⟩
    have hlen : (vs ++ us ++ rowZ zero ((cap - (s.l + n)) * zero.length)).length = cap * size := by
      simp [rowZ_length, hl, hu, hz]
      rw [← Nat.add_mul, ← Nat.add_mul]
      congr 1
      omega
    refine hK _ _ ⟨by simp [newSl, hl, hu, Nat.add_mul], .inr ⟨w.heap.size, _, rfl, Row.new (w := w.drew), by rw [hlen]; rfl, hcap, ?_⟩⟩ rfl (Fr.trans Fr.drew (Fr.alloc (F := inB s)) fun b hb _ => hb) fun b hb => ?_
    · rw [List.take_append_of_le_length (by simp)]
      exact List.take_of_length_le (by simp)
    · obtain ⟨a, ha, rfl⟩ := hb
      cases ha
      exact .inr (Nat.le_refl _)

theorem apS_own {bytes : Nat} {zero : List Value} {e : Nat} {K : SW} (h : OwnV size w s vs) (hx : rdC w x.p (x.l * size) us) (hok : ∀ v ∈ us, okC v = true) (hz : zero.length = size)
    (hb : (s.l + x.l) * bytes ≤ 2 ^ 47) (hn : s.l + x.l < 2 ^ 63)
    (hK : ∀ r w', OwnV size w' r (vs ++ us) → r.l = s.l + x.l → Fr (inB s) w w' → (∀ b, inB r b → inB s b ∨ w.heap.size ≤ b) → K r w') :
    apS size bytes zero e s x w K := ⟨us, hx, hok, apG_own h hx.1 hz hb hn hK⟩
end

theorem Fr.kept {w w' : World} (h : Fr (fun _ => False) w w') (may : MemPlace → Prop) : w.keptBut w' may := by
  refine ⟨h.2.2.1, h.2.2.2.1, fun i hi => ?_⟩
  rw [h.2.1 i hi fun h => h]
  cases w.heap[i]? with
  | none => rfl
  | some o => cases o <;> simp
end Pw
