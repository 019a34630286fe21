/- Bytes: slices of them, strings, and the two ways between. Conditions: none. -/
import Derived.Test.YtfclokkfnkieoaaGreatDoorPwH
namespace Pw
open Go

theorem okC_bv {l : List UInt8} : ∀ v ∈ l.map bv, okC v = true := by
  intro v hv
  obtain ⟨b, _, rfl⟩ := List.mem_map.1 hv
  rfl

theorem rowZ_u8 (n : Nat) : rowZ [Value.int .u8 0] n = (List.replicate n (0 : UInt8)).map bv := by
  unfold rowZ
  apply List.ext_getElem
  · simp
  · intro i h1 h2
    simp [bv, Nat.mod_one]

/-- A string's bytes. -/
def bl (s : ByteArray) : List UInt8 := s.data.toList

@[simp] theorem bl_ofL (l : List UInt8) : bl (ofL l) = l := by simp [bl, ofL]
@[simp] theorem ofL_bl (s : ByteArray) : ofL (bl s) = s := by simp [bl, ofL]
theorem bl_length (s : ByteArray) : (bl s).length = s.size := by simp [bl]
theorem bl_inj {s t : ByteArray} (h : bl s = bl t) : s = t := by rw [← ofL_bl s, ← ofL_bl t, h]
@[simp] theorem bl_append (s t : ByteArray) : bl (s ++ t) = bl s ++ bl t := by simp [bl]
theorem bl_extract (s : ByteArray) (a b : Nat) : bl (s.extract a b) = ((bl s).take b).drop a := by
  simp only [bl, ByteArray.data_extract, Array.toList_extract, List.extract_eq_take_drop]
  rw [List.take_drop, List.drop_take]
  apply List.ext_getElem?
  intro i
  simp [List.getElem?_drop, List.getElem?_take]
  by_cases h : a + i < b
  · have : i < b - a := by omega
    simp [h, this]
  · have : ¬ i < b - a := by omega
    simp [h, this]
theorem bl_str (l : List Nat) : bl (str l) = l.map UInt8.ofNat := by simp [bl, str]

section
variable {w w' : World} {s x : Sl} {l m : List UInt8}

theorem stbS_own {e : Nat} {t : ByteArray} {K : SW} (F : Nat → Prop) (hK : ∀ r w', OwnV 1 w' r ((bl t).map bv) → r.l = t.size → Fr F w w' → (∀ b, inB r b → w.heap.size ≤ b) → K r w') : stbS e t w K := by
  intro cap hcap
  have hlen : (List.map bv t.data.toList ++ List.replicate (cap - t.size) (Value.int .u8 0)).length = cap := by
    simp; omega
  refine hK _ _ ⟨by simp [newSl, bl], .inr ⟨w.heap.size, _, rfl, Row.newF (w := w.drew) (by rw [hlen]; exact Nat.le_refl _), by rw [hlen]; simp [newSl], hcap, ?_⟩⟩ rfl (Fr.trans Fr.drew (Fr.alloc (F := F)) fun b hb _ => hb) fun b hb => ?_
  · show List.take ((bl t).map bv).length (List.map bv t.data.toList ++ _) = _
    rw [List.take_append_of_le_length (by simp [bl])]
    exact List.take_of_length_le (by simp [bl])
  · obtain ⟨a, ha, rfl⟩ := hb
    cases ha
    exact Nat.le_refl _

theorem btsS_rd {K : ByteArray → Prop} (h : rdC w s.p s.l (l.map bv)) (hK : K (ofL l)) : btsS s w K := ⟨l, h, hK⟩

theorem take_splice {cs vs : List Value} {o n : Nat} (h : o + vs.length ≤ n) (hn : n ≤ cs.length) : (splice cs o vs).take n = splice (cs.take n) o vs := by
  unfold splice
  have h1 : min o cs.length = o := by omega
  rw [List.take_append, List.take_append]
  simp only [List.length_take, List.length_append, List.take_take, h1]
  have e1 : min n o = o := by omega
  have e2 : min o n = o := by omega
  have e3 : min (n - o) vs.length = vs.length := by omega
  rw [List.take_of_length_le (l := vs) (by omega), e1, e2, List.drop_take]

def spB (l : List UInt8) (o : Nat) (m : List UInt8) : List UInt8 := l.take o ++ m ++ l.drop (o + m.length)

theorem splice_map (l : List UInt8) (o : Nat) (m : List UInt8) : splice (l.map bv) o (m.map bv) = (spB l o m).map bv := by
  simp [splice, spB, List.map_take, List.map_drop]

theorem map_bv_inj {l m : List UInt8} (h : l.map bv = m.map bv) : l = m := by
  induction l generalizing m with
  | nil => cases m <;> simp_all
  | cons a l ih =>
    cases m with
    | nil => simp at h
    | cons b m =>
      simp only [List.map_cons, List.cons.injEq] at h
      obtain ⟨h1, h2⟩ := h
      rw [ih h2]
      congr 1
      simp [bv] at h1
      exact UInt8.toNat_inj.1 (by omega)

/-- copy(s[off:], x) where it fits. -/
theorem cpS_own {off : Nat} {K : Int → World → Prop} (hs : OwnV 1 w s (l.map bv)) (hx : rdC w x.p (x.l * 1) (m.map bv)) (hfit : off + m.length ≤ l.length)
    (hK : ∀ n w', OwnV 1 w' s ((spB l off m).map bv) → Fr (inB s) w w' → K n w') :
    cpS 1 (Sl.mk (subP s.p off s.c 1) (s.l - off) (s.c - off)) x w K := by
  obtain ⟨hl, hs⟩ := hs
  simp only [List.length_map, Nat.mul_one] at hl
  have hxl : x.l = m.length := by have := hx.1; simp at this; omega
  have hmin : min x.l (s.l - off) = x.l := by omega
  refine ⟨m.map bv, by simp only [hmin]; exact hx, okC_bv, ?_⟩
  rcases hs with ⟨hp, hl0, hc0⟩ | ⟨b, cs, hp, hr, hcs, hle, ht⟩
  · have hsub : subP s.p off s.c 1 = none := by rw [hp]; unfold subP; split <;> rfl
    simp only [hsub]
    have h0 : l = [] := List.eq_nil_of_length_eq_zero (by omega)
    have h1 : m = [] := List.eq_nil_of_length_eq_zero (by simp [h0] at hfit; omega)
    subst h0; subst h1
    exact hK _ _ ⟨by simp [spB, hl0], .inl ⟨hp, hl0, hc0⟩⟩ Fr.refl
  · by_cases hc : s.c = off
    · have h1 : m = [] := List.eq_nil_of_length_eq_zero (by omega)
      subst h1
      have hsub : subP s.p off s.c 1 = some ⟨b, 0, none⟩ := by rw [hp]; unfold subP; simp [hc]
      simp only [hsub]
      have hsp : spB l off [] = l := by simp [spB]
      exact ⟨fun i hi => by simp at hi, hK _ _ ⟨by rw [hsp]; simpa using hl, .inr ⟨b, cs, hp, hr, hcs, hle, by rw [hsp]; exact ht⟩⟩ Fr.refl⟩
    · have hsub : subP s.p off s.c 1 = some ⟨b, off, none⟩ := by rw [hp]; unfold subP; simp [hc]
      simp only [hsub]
      simp only [Nat.mul_one] at hcs
      have hfit' : off + (m.map bv).length ≤ cs.length := by simp; omega
      refine ⟨fun i hi => by rw [add_mk]; exact hr.wr (by simp at hi; omega), ?_⟩
      have hrow := wrC_row (o := off) (m.map bv) 0 w cs hr (by simp; omega)
      simp only [Nat.add_zero] at hrow
      have hlen : (spB l off m).length = l.length := by simp [spB]; omega
      refine hK _ _ ⟨by simp [hlen, hl], .inr ⟨b, _, hp, hrow, by rw [splice_length _ _ _ hfit', hcs, Nat.mul_one], hle, ?_⟩⟩ ⟨by rw [wrC_size]; exact Nat.le_refl _, fun c _ hn => wrC_ne (a := ⟨b, off, none⟩) (fun he => hn ⟨_, hp, he⟩) _ _ _, wrC_os _ _ _, wrC_out _ _ _, wrC_tape _ _ _⟩
      rw [List.length_map, hlen, take_splice (by simp; omega) (by omega)]
      have : cs.take l.length = l.map bv := by simpa using ht
      rw [this, splice_map]
end
end Pw
