/- The blocks that a call has made, as a list, and how they go on. Conditions: none. -/
import Derived.Test.YtfclokkfnkieoaaGreatDoorPwM
namespace Pw
open Go

/-- Blocks that read as they should. -/
def Rs (w : World) (l : List (Nat × List Value)) : Prop := ∀ p ∈ l, Row w p.1 p.2

/-- Since w0 only the blocks of the list have been made and written; they lie apart. -/
def Mem (w0 w : World) (l : List (Nat × List Value)) : Prop :=
  Fr F0 w0 w ∧ Rs w l ∧ (l.map (·.1)).Pairwise (· > ·) ∧ ∀ p ∈ l, w0.heap.size ≤ p.1

section
variable {w0 w w' : World} {l : List (Nat × List Value)}

theorem Rs.ld {b i : Nat} {cs : List Value} {v : Value} (h : Rs w l) (j : Nat) (hj : l[j]? = some (b, cs)) (hv : cs[i]? = some v) : w.cell? ⟨b, i, none⟩ = some v :=
  (h _ (List.mem_of_getElem? hj)).at hv

theorem Mem.nil : Mem w w [] := ⟨Fr.refl, (by intro p hp; cases hp), List.Pairwise.nil, (by intro p hp; cases hp)⟩

theorem Mem.alloc {cs : Array Value} {e : TypeId} (h : Mem w0 w l) : Mem w0 (w.alloc (Obj.cells cs e)) ((w.heap.size, cs.toList) :: l) := by
  obtain ⟨hf, hr, hp, hb⟩ := h
  refine ⟨hf.trans (G := F0) Fr.alloc fun b hb _ => hb.elim, fun p hp => ?_, ?_, fun p hp => ?_⟩
  · rcases List.mem_cons.1 hp with rfl | hp
    · exact Row.new (cs := cs.toList)
    · exact (hr p hp).congr (heap_alloc_lt (hr p hp).lt)
  · simp only [List.map_cons, List.pairwise_cons]
    refine ⟨fun b hb => ?_, hp⟩
    obtain ⟨p, hp, rfl⟩ := List.mem_map.1 hb
    exact (hr p hp).lt
  · rcases List.mem_cons.1 hp with rfl | hp
    · exact hf.1
    · exact hb p hp

theorem Mem.fr (h : Mem w0 w l) (hf : Fr F0 w w') : Mem w0 w' l := by
  obtain ⟨h1, hr, hp, hb⟩ := h
  exact ⟨h1.trans hf fun b hb _ => hb.elim, fun p hp => hf.row (hr p hp) fun h => h, hp, hb⟩

theorem Mem.drew (h : Mem w0 w l) : Mem w0 w.drew l := h.fr Fr.drew

theorem Mem.ld {b i : Nat} {cs : List Value} {v : Value} (h : Mem w0 w l) (j : Nat) (hj : l[j]? = some (b, cs)) (hv : cs[i]? = some v) : w.cell? ⟨b, i, none⟩ = some v :=
  h.2.1.ld j hj hv

theorem Mem.wr {b i : Nat} {cs : List Value} (h : Mem w0 w l) (j : Nat) (hj : l[j]? = some (b, cs)) (hi : Nat.blt i cs.length = true) : wrOk w ⟨b, i, none⟩ :=
  (h.2.1 _ (List.mem_of_getElem? hj)).wr (by simpa [Nat.blt_eq] using hi)

theorem Mem.set {b i : Nat} {cs : List Value} {v : Value} (h : Mem w0 w l) (j : Nat) (hj : l[j]? = some (b, cs)) : Mem w0 (w.setCell ⟨b, i, none⟩ v) (l.set j (b, cs.set i v)) := by
  obtain ⟨h1, hr, hp, hb⟩ := h
  obtain ⟨hlt, hge⟩ := List.getElem?_eq_some_iff.1 hj
  have hmem := List.mem_of_getElem? hj
  have hmap : (l.set j (b, cs.set i v)).map (·.1) = l.map (·.1) := by
    rw [List.map_set]
    apply List.ext_getElem?
    intro k
    rw [List.getElem?_set]
    split
    · rename_i hk
      subst hk
      simp [hlt, hge]
    · rfl
  refine ⟨h1.trans (Fr.set (F := fun c => c = b) rfl) fun c hc hlt' => ?_, fun p hp' => ?_, by rw [hmap]; exact hp, fun p hp' => ?_⟩
  · have := hb _ hmem
    simp only at this hc
    omega
  · obtain ⟨k, hk, rfl⟩ := List.mem_iff_getElem.1 hp'
    rw [List.getElem_set]
    split
    · exact (hr _ hmem).set i v
    · rename_i hjk
      simp only [List.length_set] at hk
      have hm : l[k] ∈ l := List.getElem_mem hk
      refine (hr _ hm).congr (heap_set_ne ?_)
      rw [List.pairwise_iff_getElem] at hp
      intro he
      rcases Nat.lt_or_ge j k with hlt2 | hge2
      · have := hp j k (by simpa using hlt) (by simpa using hk) hlt2
        simp only [List.getElem_map, hge] at this
        simp only at he
        omega
      · have := hp k j (by simpa using hk) (by simpa using hlt) (by omega)
        simp only [List.getElem_map, hge] at this
        simp only at he
        omega
  · rcases List.mem_or_eq_of_mem_set hp' with hp' | rfl
    · exact hb p hp'
    · have := hb _ hmem
      exact this

/-- A result of two numbers and a truth value, laid into its variable and read again. -/
theorem put2b {b : Nat} {x y : Value} {k1 k2 : IntKind} {a c : Int} {ok : Bool} {K : Int → Int → Bool → World → Prop} (m : Mem w0 w l) (j : Nat) (hj : l[j]? = some (b, [x, y])) (hK : ∀ w', Fr F0 w0 w' → K a c ok w') :
    wrOk w (Addr.mk b 0 none) ∧ (let w4 : World := w.setCell (Addr.mk b 0 none) (Value.int k1 a)
      wrOk w4 (Addr.mk b 1 none) ∧ (let w5 : World := w4.setCell (Addr.mk b 1 none) (Value.int k2 c)
        ∃ x6 : Int, w5.cell? (Addr.mk b 0 none) = some (Value.int k1 x6) ∧ ∃ x7 : Int, w5.cell? (Addr.mk b 1 none) = some (Value.int k2 x7) ∧ K x6 x7 ok w5)) := by
  have hl : j < l.length := (List.getElem?_eq_some_iff.1 hj).1
  refine ⟨m.wr j hj rfl, ?_⟩
  intro w2
  have m : Mem w0 w2 _ := m.set j hj
  clear_value w2
  refine ⟨m.wr j (cs := [Value.int k1 a, y]) (by simp [hl]) rfl, ?_⟩
  intro w3
  have m : Mem w0 w3 _ := m.set j (cs := [Value.int k1 a, y]) (by simp [hl])
  clear_value w3
  exact ⟨_, m.ld j (cs := [Value.int k1 a, Value.int k2 c]) (by simp [hl]) rfl, _, m.ld j (cs := [Value.int k1 a, Value.int k2 c]) (by simp [hl]) rfl, hK w3 m.1⟩

theorem put2 {b : Nat} {x y : Value} {k1 k2 : IntKind} {a c : Int} {K : Int → Int → World → Prop} (m : Mem w0 w l) (j : Nat) (hj : l[j]? = some (b, [x, y])) (hK : ∀ w', Fr F0 w0 w' → K a c w') :
    wrOk w (Addr.mk b 0 none) ∧ (let w4 : World := w.setCell (Addr.mk b 0 none) (Value.int k1 a)
      wrOk w4 (Addr.mk b 1 none) ∧ (let w5 : World := w4.setCell (Addr.mk b 1 none) (Value.int k2 c)
        ∃ x6 : Int, w5.cell? (Addr.mk b 0 none) = some (Value.int k1 x6) ∧ ∃ x7 : Int, w5.cell? (Addr.mk b 1 none) = some (Value.int k2 x7) ∧ K x6 x7 w5)) :=
  put2b (K := fun a c _ w => K a c w) (ok := true) m j hj hK

theorem put3 {b : Nat} {x y z : Value} {a c : Int} {e : Bool} {K : Bool → Int → Int → World → Prop} (m : Mem w0 w l) (j : Nat) (hj : l[j]? = some (b, [x, y, z])) (hK : ∀ w', Fr F0 w0 w' → K e a c w') :
    wrOk w (Addr.mk b 0 none) ∧ (let w4 : World := w.setCell (Addr.mk b 0 none) (Value.bool e)
      wrOk w4 (Addr.mk b 1 none) ∧ (let w5 : World := w4.setCell (Addr.mk b 1 none) (Value.int .u64 a)
        wrOk w5 (Addr.mk b 2 none) ∧ (let w6 : World := w5.setCell (Addr.mk b 2 none) (Value.int .u64 c)
          ∃ x5 : Bool, w6.cell? (Addr.mk b 0 none) = some (Value.bool x5) ∧ ∃ x6 : Int, w6.cell? (Addr.mk b 1 none) = some (Value.int .u64 x6) ∧ ∃ x7 : Int, w6.cell? (Addr.mk b 2 none) = some (Value.int .u64 x7) ∧ K x5 x6 x7 w6))) := by
  have hl : j < l.length := (List.getElem?_eq_some_iff.1 hj).1
  refine ⟨m.wr j hj rfl, ?_⟩
  intro w2
  have m : Mem w0 w2 _ := m.set j hj
  clear_value w2
  refine ⟨m.wr j (cs := [Value.bool e, y, z]) (by simp [hl]) rfl, ?_⟩
  intro w3
  have m : Mem w0 w3 _ := m.set j (cs := [Value.bool e, y, z]) (by simp [hl])
  clear_value w3
  refine ⟨m.wr j (cs := [Value.bool e, .int .u64 a, z]) (by simp [hl]) rfl, ?_⟩
  intro w4
  have m : Mem w0 w4 _ := m.set j (cs := [Value.bool e, .int .u64 a, z]) (by simp [hl])
  clear_value w4
  exact ⟨_, m.ld j (cs := [Value.bool e, Value.int .u64 a, Value.int .u64 c]) (by simp [hl]) rfl, _, m.ld j (cs := [Value.bool e, Value.int .u64 a, Value.int .u64 c]) (by simp [hl]) rfl, _, m.ld j (cs := [Value.bool e, Value.int .u64 a, Value.int .u64 c]) (by simp [hl]) rfl, hK w4 m.1⟩

theorem Mem.sub {m : List (Nat × List Value)} (h : Mem w0 w l) (k : Nat) (hk : l.drop k = m) : Rs w m := fun p hp => h.2.1 p (List.mem_of_mem_drop (hk ▸ hp))
end
end Pw
namespace Pw
open Go
theorem Mem.allocL {w0 w : World} {l : List (Nat × List Value)} {cs : List Value} {e : TypeId} (h : Mem w0 w l) : Mem w0 (w.alloc (Obj.cells cs.toArray e)) ((w.heap.size, cs) :: l) := h.alloc
end Pw
