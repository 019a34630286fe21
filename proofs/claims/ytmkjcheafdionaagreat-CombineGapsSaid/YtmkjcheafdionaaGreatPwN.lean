/- The blocks that a call has made, as a list, and how they go on. Conditions: none. -/
import Derived.Test.YtmkjcheafdionaaGreatPwM
namespace Pw
open Go
def Rs (w : World) (l : List (Nat × List Value)) : Prop := ∀ p ∈ l, Row w p.1 p.2
def Mem (w0 w : World) (l : List (Nat × List Value)) : Prop :=
 Fr F0 w0 w /\ Rs w l /\ (l.map (·.1)).Pairwise (· > ·) /\ ∀ p ∈ l, w0.heap.size <= p.1
section
variable {w0 w w' : World} {l : List (Nat × List Value)}
theorem Rs.ld {b i : Nat} {cs : List Value} {v : Value} (h : Rs w l) (j : Nat) (hj : l[j]? = some (b, cs)) (hv : cs[i]? = some v) : w.cell? ⟨b, i, none⟩ = some v :=
 (h _ (List.mem_of_getElem? hj)).at hv
theorem Mem.nil : Mem w w [] := ⟨Fr.refl, (by intro p hp; cases hp), List.Pairwise.nil, (by intro p hp; cases hp)⟩
theorem Mem.alloc {cs : Array Value} {e : TypeId} (h : Mem w0 w l) : Mem w0 (w.alloc (Obj.cells cs e)) ((w.heap.size, cs.toList) :: l) := by
 obtain ⟨hf, hr, hp, hb⟩ := h
 refine ⟨hf.trans (G := F0) Fr.alloc fun b hb _ => hb.elim, fun p hp => ?_, ?_, fun p hp => ?_⟩
 ·rcases List.mem_cons.1 hp with rfl | hp
  ·exact Row.new (cs := cs.toList)
  ·exact (hr p hp).congr (heap_alloc_lt (hr p hp).lt)
 ·simp only [List.map_cons, List.pairwise_cons]
  refine ⟨fun b hb => ?_, hp⟩
  obtain ⟨p, hp, rfl⟩ := List.mem_map.1 hb
  exact (hr p hp).lt
 ·rcases List.mem_cons.1 hp with rfl | hp
  ·exact hf.1
  ·exact hb p hp
theorem Mem.fr (h : Mem w0 w l) (hf : Fr F0 w w') : Mem w0 w' l := by
 obtain ⟨h1, hr, hp, hb⟩ := h
 exact ⟨h1.trans hf fun b hb _ => hb.elim, fun p hp => hf.row (hr p hp) fun h => h, hp, hb⟩
theorem Mem.drew (h : Mem w0 w l) : Mem w0 w.drew l := h.fr Fr.drew
theorem Mem.ld {b i : Nat} {cs : List Value} {v : Value} (h : Mem w0 w l) (j : Nat) (hj : l[j]? = some (b, cs)) (hv : cs[i]? = some v) : w.cell? ⟨b, i, none⟩ = some v :=
 h.2.1.ld j hj hv
theorem Mem.wr {b i : Nat} {cs : List Value} (h : Mem w0 w l) (j : Nat) (hj : l[j]? = some (b, cs)) (hi : Nat.blt i cs.length = true) : wrOk w ⟨b, i, none⟩ :=
 (h.2.1 _ (List.mem_of_getElem? hj)).wr (by simpa [Nat.blt_eq] using hi)
theorem Mem.set {b i : Nat} {cs : List Value} {v : Value} (h : Mem w0 w l) (j : Nat) (hj : l[j]? = some (b, cs)) : Mem w0 (w.setCell ⟨b, i, none⟩ v) (l.set j (b, cs.set i v)) := by
 obtain ⟨h1, hr, hp, hb⟩ := h
 obtain ⟨hlt, hge⟩ := List.getElem?_eq_some_iff.1 hj
 have hmem := List.mem_of_getElem? hj
 have hmap : (l.set j (b, cs.set i v)).map (·.1) = l.map (·.1) := by
  rw [List.map_set]
  apply List.ext_getElem?
  intro k
  rw [List.getElem?_set]
  split
  ·rename_i hk
   subst hk
   simp [hlt, hge]
  ·rfl
 refine ⟨h1.trans (Fr.set (F := fun c => c = b) rfl) fun c hc hlt' => ?_, fun p hp' => ?_, by rw [hmap]; exact hp, fun p hp' => ?_⟩
 ·have := hb _ hmem
  simp only at this hc
  omega
 ·obtain ⟨k, hk, rfl⟩ := List.mem_iff_getElem.1 hp'
  rw [List.getElem_set]
  split
  ·exact (hr _ hmem).set i v
  ·rename_i hjk
   simp only [List.length_set] at hk
   have hm : l[k] ∈ l := List.getElem_mem hk
   refine (hr _ hm).congr (heap_set_ne ?_)
   rw [List.pairwise_iff_getElem] at hp
   intro he
   rcases Nat.lt_or_ge j k with hlt2 | hge2
   ·have := hp j k (by simpa using hlt) (by simpa using hk) hlt2
    simp only [List.getElem_map, hge] at this
    simp only at he
    omega
   ·have := hp k j (by simpa using hk) (by simpa using hlt) (by omega)
    simp only [List.getElem_map, hge] at this
    simp only at he
    omega
 ·rcases List.mem_or_eq_of_mem_set hp' with hp' | rfl
  ·exact hb p hp'
  ·have := hb _ hmem
   exact this
theorem put2b {b : Nat} {x y : Value} {k1 k2 : IntKind} {a c : Int} {ok : Bool} {K : Int -> Int -> Bool -> World -> Prop} (m : Mem w0 w l) (j : Nat) (hj : l[j]? = some (b, [x, y])) (hK : ∀ w', Fr F0 w0 w' -> K a c ok w') :
  wrOk w (Addr.mk b 0 none) /\ (let w4 : World := w.setCell (Addr.mk b 0 none) (Value.int k1 a)
   wrOk w4 (Addr.mk b 1 none) /\ (let w5 : World := w4.setCell (Addr.mk b 1 none) (Value.int k2 c)
    ∃ x6 : Int, w5.cell? (Addr.mk b 0 none) = some (Value.int k1 x6) /\ ∃ x7 : Int, w5.cell? (Addr.mk b 1 none) = some (Value.int k2 x7) /\ K x6 x7 ok w5)) := by
 have hl : j < l.length := (List.getElem?_eq_some_iff.1 hj).1
 refine ⟨m.wr j hj rfl, ?_⟩
 intro w2
 have m : Mem w0 w2 _ := m.set j hj
 clear_value w2
 refine ⟨m.wr j (cs := [Value.int k1 a, y]) (by simp [hl]) rfl, ?_⟩
 intro w3
 have m : Mem w0 w3 _ := m.set j (cs := [Value.int k1 a, y]) (by simp [hl])
 clear_value w3
 exact ⟨_, m.ld j (cs := [Value.int k1 a, Value.int k2 c]) (by simp [hl]) rfl, _, m.ld j (cs := [Value.int k1 a, Value.int k2 c]) (by simp [hl]) rfl, hK w3 m.1⟩
theorem put2 {b : Nat} {x y : Value} {k1 k2 : IntKind} {a c : Int} {K : Int -> Int -> World -> Prop} (m : Mem w0 w l) (j : Nat) (hj : l[j]? = some (b, [x, y])) (hK : ∀ w', Fr F0 w0 w' -> K a c w') :
  wrOk w (Addr.mk b 0 none) /\ (let w4 : World := w.setCell (Addr.mk b 0 none) (Value.int k1 a)
   wrOk w4 (Addr.mk b 1 none) /\ (let w5 : World := w4.setCell (Addr.mk b 1 none) (Value.int k2 c)
    ∃ x6 : Int, w5.cell? (Addr.mk b 0 none) = some (Value.int k1 x6) /\ ∃ x7 : Int, w5.cell? (Addr.mk b 1 none) = some (Value.int k2 x7) /\ K x6 x7 w5)) :=
 put2b (K := fun a c _ w => K a c w) (ok := true) m j hj hK
theorem put3 {b : Nat} {x y z : Value} {a c : Int} {e : Bool} {K : Bool -> Int -> Int -> World -> Prop} (m : Mem w0 w l) (j : Nat) (hj : l[j]? = some (b, [x, y, z])) (hK : ∀ w', Fr F0 w0 w' -> K e a c w') :
  wrOk w (Addr.mk b 0 none) /\ (let w4 : World := w.setCell (Addr.mk b 0 none) (Value.bool e)
   wrOk w4 (Addr.mk b 1 none) /\ (let w5 : World := w4.setCell (Addr.mk b 1 none) (Value.int .u64 a)
    wrOk w5 (Addr.mk b 2 none) /\ (let w6 : World := w5.setCell (Addr.mk b 2 none) (Value.int .u64 c)
     ∃ x5 : Bool, w6.cell? (Addr.mk b 0 none) = some (Value.bool x5) /\ ∃ x6 : Int, w6.cell? (Addr.mk b 1 none) = some (Value.int .u64 x6) /\ ∃ x7 : Int, w6.cell? (Addr.mk b 2 none) = some (Value.int .u64 x7) /\ K x5 x6 x7 w6))) := by
 have hl : j < l.length := (List.getElem?_eq_some_iff.1 hj).1
 refine ⟨m.wr j hj rfl, ?_⟩
 intro w2
 have m : Mem w0 w2 _ := m.set j hj
 clear_value w2
 refine ⟨m.wr j (cs := [Value.bool e, y, z]) (by simp [hl]) rfl, ?_⟩
 intro w3
 have m : Mem w0 w3 _ := m.set j (cs := [Value.bool e, y, z]) (by simp [hl])
 clear_value w3
 refine ⟨m.wr j (cs := [Value.bool e, .int .u64 a, z]) (by simp [hl]) rfl, ?_⟩
 intro w4
 have m : Mem w0 w4 _ := m.set j (cs := [Value.bool e, .int .u64 a, z]) (by simp [hl])
 clear_value w4
 exact ⟨_, m.ld j (cs := [Value.bool e, Value.int .u64 a, Value.int .u64 c]) (by simp [hl]) rfl, _, m.ld j (cs := [Value.bool e, Value.int .u64 a, Value.int .u64 c]) (by simp [hl]) rfl, _, m.ld j (cs := [Value.bool e, Value.int .u64 a, Value.int .u64 c]) (by simp [hl]) rfl, hK w4 m.1⟩
theorem Mem.sub {m : List (Nat × List Value)} (h : Mem w0 w l) (k : Nat) (hk : l.drop k = m) : Rs w m := fun p hp => h.2.1 p (List.mem_of_mem_drop (hk ▸ hp))
end
end Pw
namespace Pw
open Go
theorem Mem.allocL {w0 w : World} {l : List (Nat × List Value)} {cs : List Value} {e : TypeId} (h : Mem w0 w l) : Mem w0 (w.alloc (Obj.cells cs.toArray e)) ((w.heap.size, cs) :: l) := h.alloc
end Pw
namespace Pw
open Go
theorem set_self {α : Type} {l : List α} {j : Nat} {a : α} (h : l[j]? = some a) : l.set j a = l := by
 obtain ⟨h1, h2⟩ := List.getElem?_eq_some_iff.1 h
 rw [← h2]
 exact List.set_getElem_self h1
theorem stN_go {w0 : World} {b : Nat} {K : World -> Prop} {l : List (Nat × List Value)} (j : Nat) : ∀ (vs : List Value) (i : Nat) (w : World) (l : List (Nat × List Value)) (cs : List Value), Mem w0 w l -> l[j]? = some (b, cs) -> i + vs.length <= cs.length ->
  (∀ w', Mem w0 w' (l.set j (b, cs.take i ++ vs ++ cs.drop (i + vs.length))) -> K w') -> stN.go ⟨b, 0, none⟩ K vs i w
 | [], i, w, l, cs, m, hj, hi, hK => by
  refine hK w ?_
  have e : cs.take i ++ [] ++ cs.drop (i + ([] : List Value).length) = cs := by simp
  rw [e, set_self hj]
  exact m
 | v :: vs, i, w, l, cs, m, hj, hi, hK => by
  simp only [List.length_cons] at hi
  unfold stN.go
  have hl : j < l.length := (List.getElem?_eq_some_iff.1 hj).1
  simp only [add_mk, Nat.zero_add]
  refine ⟨m.wr j hj (by simp [Nat.blt_eq]; omega), ?_⟩
  refine stN_go (l := l) j vs (i + 1) _ (l.set j (b, cs.set i v)) (cs.set i v) (m.set j hj) (by simp [hl]) (by simp; omega) fun w' m' => hK w' ?_
  have e : (cs.set i v).take (i + 1) ++ vs ++ (cs.set i v).drop (i + 1 + vs.length) = cs.take i ++ v :: vs ++ cs.drop (i + (v :: vs).length) := by
   apply List.ext_getElem?
   intro k
   have h3 : min (i + 1) cs.length = i + 1 := by omega
   have h4 : min i cs.length = i := by omega
   simp only [List.getElem?_append, List.length_append, List.length_take, List.length_set, List.length_cons, h3, h4, List.getElem?_take, List.getElem?_drop, List.getElem?_set]
   by_cases h1 : k < i
   ·rw [if_pos (by omega), if_pos (by omega), if_pos (by omega), if_neg (by omega), if_pos (by omega), if_pos (by omega), if_pos h1]
   ·by_cases h2 : k = i
    ·subst h2
     rw [if_pos (by omega), if_pos (by omega), if_pos (by omega), if_pos rfl, if_pos (by omega), if_pos (by omega), if_neg (by omega)]
     simp
    ·by_cases h5 : k < i + 1 + vs.length
     ·rw [if_pos (by omega), if_neg (by omega), if_pos (by omega), if_neg (by omega)]
      have : k - i = (k - (i + 1)) + 1 := by omega
      rw [this, List.getElem?_cons_succ]
     ·rw [if_neg (by omega), if_neg (by omega), if_neg (by omega)]
      congr 1
      omega
  rw [List.set_set, e] at m'
  exact m'
theorem stN_new {w0 w : World} {l : List (Nat × List Value)} {zs vs : List Value} {e : TypeId} {K : World -> Prop} (hl : zs.length = vs.length) (m : Mem w0 w l) (hK : ∀ w', Mem w0 w' ((w.heap.size, vs) :: l) -> K w') :
  (let w1 : World := w.alloc (Obj.cells zs.toArray e)
  stN w1 ⟨w.heap.size, 0, none⟩ vs K) := by
 intro w1
 have m1 : Mem w0 w1 ((w.heap.size, zs) :: l) := m.allocL
 refine stN_go (l := l) 0 vs 0 w1 _ zs m1 rfl (by omega) fun w' m' => hK w' ?_
 have e : zs.take 0 ++ vs ++ zs.drop (0 + vs.length) = vs := by simp [hl]
 rw [e, List.set_cons_zero] at m'
 exact m'
end Pw
namespace Pw
open Go
theorem Mem.dr {w0 w : World} {l m : List (Nat × List Value)} (h : Mem w0 w l) (k : Nat) (hk : l.drop k = m) : Mem w0 w m := by
 subst hk
 obtain ⟨h1, h2, h3, h4⟩ := h
 refine ⟨h1, fun p hp => h2 p (List.mem_of_mem_drop hp), ?_, fun p hp => h4 p (List.mem_of_mem_drop hp)⟩
 rw [List.map_drop]
 exact h3.sublist (List.drop_sublist _ _)
theorem Mem.skip {w0 w : World} {l m : List (Nat × List Value)} (h : Mem w0 w l) (k a : Nat) (hk : (l.eraseIdx k).drop a = m) : Rs w m := by
 subst hk
 exact fun p hp => h.2.1 p (List.mem_of_mem_eraseIdx (List.mem_of_mem_drop hp))
theorem Mem.row {w0 w : World} {l : List (Nat × List Value)} {b : Nat} {cs : List Value} (h : Mem w0 w l) (j : Nat) (hj : l[j]? = some (b, cs)) : Row w b cs := h.2.1 _ (List.mem_of_getElem? hj)
theorem stN_at {w0 w : World} {l : List (Nat × List Value)} {b : Nat} {cs vs : List Value} {K : World -> Prop} (m : Mem w0 w l) (j : Nat) (hj : l[j]? = some (b, cs)) (hl : cs.length = vs.length) (hK : ∀ w', Mem w0 w' (l.set j (b, vs)) -> K w') : stN w ⟨b, 0, none⟩ vs K := by
 refine stN_go (l := l) j vs 0 w l cs m hj (by omega) fun w' m' => hK w' ?_
 have e : cs.take 0 ++ vs ++ cs.drop (0 + vs.length) = vs := by simp [← hl]
 rw [e] at m'
 exact m'
end Pw
