/- combine: the product that is added to a bound. Conditions: none. -/
import Derived.Test.YtmkjcheafdionaaCD5
import Derived.Test.YtmkjcheafdionaaCB
namespace Go.Proofs.Ytmkjcheafdionaa
open Go Pw

section
variable {w w' w0 : World} {l : List (Nat × List Value)}

theorem Add_s {n d n' d' : Int} {K : Int -> Int -> Bool -> World -> Prop} (hn : I64 n) (hd : I64 d) (hn' : I64 n') (hd' : I64 d') (hK : ∀ w', Fr F0 w w' -> K (addQ n d n' d').n (addQ n d n' d').d (addQ n d n' d').ok w') : ratio_Add_sh n d n' d' K w := Add_spec hn hd hn' hd' hK
theorem Mul_s {n d n' d' : Int} {K : Int -> Int -> Bool -> World -> Prop} (hn : I64 n) (hd : I64 d) (hn' : I64 n') (hd' : I64 d') (hK : ∀ w', Fr F0 w w' -> K (mulQ n d n' d').n (mulQ n d n' d').d (mulQ n d n' d').ok w') : ratio_Mul_sh n d n' d' K w := Mul_spec hn hd hn' hd' hK
theorem Make_s {n d : Int} {K : Int -> Int -> Bool -> World -> Prop} (hn : I64 n) (hd : I64 d) (hK : ∀ w', Fr F0 w w' -> K (makeQ n d).n (makeQ n d).d (makeQ n d).ok w') : ratio_Make_sh n d K w := Make_spec hn hd hK

theorem bound1_k0 {n d : Int} {b : Nat} {m0 : List (Nat × List Value)} {t : Nat} {v0 v1 : Value} {K : Int -> Int -> World -> Prop} (m : Mem w0 w ((b, [.int .i64 n, .int .i64 d]) :: m0)) (j : Nat) (hj : m0[j]? = some (t, [v0, v1])) (k : Nat) (hk : m0.drop k = l) (hjk : j < k)
    (hK : ∀ w', Mem w0 w' l -> K n d w') : Cp_bound_1_k0 ⟨t, 0, none⟩ ⟨b, 0, none⟩ K w := by
  refine ⟨?_⟩
  unfold Cp_bound_1_k0d
  have hl : j < m0.length := (List.getElem?_eq_some_iff.1 hj).1
  refine ⟨_, m.ld 0 rfl rfl, _, m.ld 0 rfl rfl, m.wr (j + 1) hj rfl, ?_⟩
  intro w1
  have m : Mem w0 w1 _ := m.set (j + 1) hj
  clear_value w1
  simp only [List.set_cons_succ] at m
  refine ⟨m.wr (j + 1) (cs := [.int .i64 n, v1]) (by simp [hl]) rfl, ?_⟩
  intro w2
  have m : Mem w0 w2 _ := m.set (j + 1) (cs := [.int .i64 n, v1]) (by simp [hl])
  clear_value w2
  simp only [List.set_cons_succ, List.set_set, List.set_cons_zero] at m
  refine ⟨_, m.ld (j + 1) (cs := [.int .i64 n, .int .i64 d]) (by simp [hl]) rfl, _, m.ld (j + 1) (cs := [.int .i64 n, .int .i64 d]) (by simp [hl]) rfl, hK w2 (m.dr (k + 1) ?_)⟩
  rw [List.drop_succ_cons, List.drop_set, if_pos hjk, hk]

theorem bound1_spec {fb : Nat} {sn sd an ad bn bd : Int} {ok : Bool} {K : Int -> Int -> World -> Prop} (m : Mem w0 w l) (j : Nat) (hj : l[j]? = some (fb, [.bool ok]))
    (h1 : I64 sn) (h2 : I64 sd) (h3 : I64 an) (h4 : I64 ad) (h5 : I64 bn) (h6 : I64 bd)
    (hK : ∀ w', Mem w0 w' (l.set j (fb, [.bool (mulAdd ⟨sn, sd, ok⟩ (an, ad) (bn, bd)).ok])) -> K (mulAdd ⟨sn, sd, ok⟩ (an, ad) (bn, bd)).n (mulAdd ⟨sn, sd, ok⟩ (an, ad) (bn, bd)).d w') : Cp_bound_1_sh sn sd an ad bn bd ⟨fb, 0, none⟩ K w := by
  refine ⟨?_⟩
  unfold Cp_bound_1_sd
  have hlt : j < l.length := (List.getElem?_eq_some_iff.1 hj).1
  intro w1
  have m : Mem w0 w1 ((w.heap.size, [.int .i64 sn, .int .i64 sd]) :: l) := m.alloc
  clear_value w1
  intro w2
  have m : Mem w0 w2 ((w1.heap.size, [.int .i64 an, .int .i64 ad]) :: (w.heap.size, [.int .i64 sn, .int .i64 sd]) :: l) := m.alloc
  clear_value w2
  intro w3
  have m : Mem w0 w3 ((w2.heap.size, [.int .i64 bn, .int .i64 bd]) :: (w1.heap.size, [.int .i64 an, .int .i64 ad]) :: (w.heap.size, [.int .i64 sn, .int .i64 sd]) :: l) := m.alloc
  clear_value w3
  intro w4
  have m : Mem w0 w4 ((w3.heap.size, [.int .i64 0, .int .i64 0]) :: (w2.heap.size, [.int .i64 bn, .int .i64 bd]) :: (w1.heap.size, [.int .i64 an, .int .i64 ad]) :: (w.heap.size, [.int .i64 sn, .int .i64 sd]) :: l) := m.alloc
  clear_value w4
  refine ⟨_, m.ld 2 rfl rfl, _, m.ld 2 rfl rfl, _, m.ld 1 rfl rfl, _, m.ld 1 rfl rfl, Mul_s h3 h4 h5 h6 fun w5 hf5 => ?_⟩
  have m := m.fr hf5
  have i1 := mulQ_I64 an ad bn bd
  generalize hx : mulQ an ad bn bd = x at *
  intro w6
  have m : Mem w0 w6 ((w5.heap.size, [.int .i64 0, .int .i64 0]) :: (w3.heap.size, [.int .i64 0, .int .i64 0]) :: (w2.heap.size, [.int .i64 bn, .int .i64 bd]) :: (w1.heap.size, [.int .i64 an, .int .i64 ad]) :: (w.heap.size, [.int .i64 sn, .int .i64 sd]) :: l) := m.alloc
  clear_value w6
  refine ⟨m.wr 0 rfl rfl, ?_⟩
  intro w7
  have m : Mem w0 w7 _ := m.set 0 rfl
  clear_value w7
  refine ⟨m.wr 0 rfl rfl, ?_⟩
  intro w8
  have m : Mem w0 w8 _ := m.set 0 rfl
  clear_value w8
  simp only [List.set_cons_zero, List.set_cons_succ] at m
  refine ⟨_, m.ld 4 rfl rfl, _, m.ld 4 rfl rfl, _, m.ld 0 rfl rfl, _, m.ld 0 rfl rfl, Add_s h1 h2 i1.1 i1.2 fun w9 hf9 => ?_⟩
  have m := m.fr hf9
  have hsum : mulAdd ⟨sn, sd, ok⟩ (an, ad) (bn, bd) = ⟨(addQ sn sd x.n x.d).n, (addQ sn sd x.n x.d).d, ok && (x.ok && (addQ sn sd x.n x.d).ok)⟩ := by unfold mulAdd; rw [hx]
  rw [hsum] at hK
  simp only at hK
  generalize addQ sn sd x.n x.d = y at *
  intro w10
  have m : Mem w0 w10 ((w9.heap.size, [.int .i64 0, .int .i64 0]) :: (w5.heap.size, [.int .i64 x.n, .int .i64 x.d]) :: (w3.heap.size, [.int .i64 0, .int .i64 0]) :: (w2.heap.size, [.int .i64 bn, .int .i64 bd]) :: (w1.heap.size, [.int .i64 an, .int .i64 ad]) :: (w.heap.size, [.int .i64 sn, .int .i64 sd]) :: l) := m.alloc
  clear_value w10
  refine ⟨m.wr 0 rfl rfl, ?_⟩
  intro w11
  have m : Mem w0 w11 _ := m.set 0 rfl
  clear_value w11
  refine ⟨m.wr 0 rfl rfl, ?_⟩
  intro w12
  have m : Mem w0 w12 _ := m.set 0 rfl
  clear_value w12
  simp only [List.set_cons_zero, List.set_cons_succ] at m
  refine ⟨ok, m.ld (j + 6) hj rfl, ?_⟩
  have fin : ∀ {v : Bool} {w13 : World}, v = (ok && (x.ok && y.ok)) -> w13 = w12.setCell ⟨fb, 0, none⟩ (.bool v) -> Cp_bound_1_k0 ⟨w3.heap.size, 0, none⟩ ⟨w9.heap.size, 0, none⟩ K w13 := by
    intro v w13 hv hw
    have m : Mem w0 w13 _ := hw ▸ m.set (j + 6) hj
    refine bound1_k0 (l := l.set j (fb, [.bool v])) m 1 rfl 5 rfl (by decide) fun w' m' => ?_
    rw [← hv] at hK
    exact hK w' m'
  cases ok
  · exact ⟨m.wr (j + 6) hj rfl, fin rfl rfl⟩
  · rw [cnd_true]
    cases hxo : x.ok
    · rw [hxo] at fin
      exact ⟨m.wr (j + 6) hj rfl, fin rfl rfl⟩
    · rw [hxo] at fin
      exact ⟨m.wr (j + 6) hj rfl, fin rfl rfl⟩
end
end Go.Proofs.Ytmkjcheafdionaa
