/- The reference's numbers made of three ints. Conditions: none. -/
import Derived.Test.YtfclokkfnkieoaaDoorRF7
namespace Go.Proofs.YtfclokkfnkieoaaDoor
open Go Pw

section
variable {w w0 : World}

theorem fitQ_I64 (q : Rat) : I64 (fitQ q).n ∧ I64 (fitQ q).d := by
  unfold fitQ
  split
  · rename_i h
    refine ⟨⟨h.1, h.2.1⟩, ?_⟩
    have := h.2.2
    show I64 (q.den : Int)
    exact ⟨by omega, by omega⟩
  · exact ⟨⟨by decide, by decide⟩, ⟨by decide, by decide⟩⟩

theorem makeQ_right (n d : Int) : rightP (makeQ n d).n (makeQ n d).d ∧ I64 (makeQ n d).n ∧ I64 (makeQ n d).d := by
  unfold makeQ
  split
  · exact ⟨by decide, ⟨by decide, by decide⟩, ⟨by decide, by decide⟩⟩
  · exact ⟨fitQ_right _, fitQ_I64 _⟩

theorem tmod_bound (n : Int) {m : Int} (hm : 0 < m) : -m < Int.tmod n m ∧ Int.tmod n m < m := by
  have := Int.natAbs_tmod n m
  have h7 : n.natAbs % m.natAbs < m.natAbs := Nat.mod_lt _ (by omega)
  rw [← this] at h7
  omega

def modI (n m : Int) : Int := n % m

theorem mod_code (n : Int) {m : Int} (hm : 0 < m) : Int.tmod (Int.tmod n m + m) m = n % m := by
  obtain ⟨h1, h2⟩ := tmod_bound n hm
  have h3 := Int.tmod_add_mul_tdiv n m
  rw [Int.tmod_eq_emod_of_nonneg (by omega), Int.add_emod_right]
  conv => rhs; rw [← h3]
  rw [Int.add_mul_emod_self_left]

theorem Mod_spec {n m : Int} {K : Int → World → Prop} (hm : 0 < m) (hm2 : m < 4611686018427387904) (hK : K (n % m) w) : probityref01_Mod_sh n m K w := by
  refine ⟨?_⟩
  unfold probityref01_Mod_sd
  obtain ⟨h1, h2⟩ := tmod_bound n hm
  refine ⟨by omega, inR64 (by omega) (by omega), by omega, ?_⟩
  rw [mod_code n hm]
  exact hK

theorem Made_k0 {n d : Int} {t : Nat} {x y : Value} {l : List (Nat × List Value)} {K : Int → Int → World → Prop} (m : Mem w0 w l) (j : Nat) (hj : l[j]? = some (t, [x, y])) (hn : I64 n) (hd : I64 d)
    (hK : ∀ a b w', rightP a b → I64 a → I64 b → Fr F0 w0 w' → K a b w') : probityref01_Made_k0 ⟨t, 0, none⟩ n d K w := by
  refine ⟨rMake_spec hn hd fun w1 hf => ?_⟩
  obtain ⟨r1, r2, r3⟩ := makeQ_right n d
  show _
  unfold Kr
  generalize makeQ n d = r at *
  have m := m.fr hf
  intro w2
  have m : Mem w0 w2 _ := m.alloc
  clear_value w2
  refine ⟨m.wr 0 rfl rfl, ?_⟩
  intro w3
  have m : Mem w0 w3 _ := m.set 0 rfl
  clear_value w3
  refine ⟨m.wr 0 rfl rfl, ?_⟩
  intro w4
  have m : Mem w0 w4 _ := m.set 0 rfl
  clear_value w4
  have hj' : ∀ p : Nat × List Value, (p :: l)[j + 1]? = some (t, [x, y]) := fun p => by simpa using hj
  cases hr : r.ok
  · rw [Bool.not_false, cnd_true]
    refine ⟨by omega, rOf_spec fun w5 hf5 => put2 (m.fr hf5) (j + 1) (hj' _) fun w6 hf6 => hK _ _ w6 ?_ ?_ ?_ hf6⟩
    · exact ⟨by decide, by simp⟩
    · obtain ⟨h1, h2⟩ := tmod_bound n (m := 1000) (by decide)
      exact ⟨by omega, by omega⟩
    · exact ⟨by decide, by decide⟩
  · rw [Bool.not_true, cnd_false]
    refine ⟨_, m.ld 0 rfl rfl, _, m.ld 0 rfl rfl, put2 m (j + 1) (hj' _) fun w6 hf6 => hK _ _ w6 r1 r2 r3 hf6⟩

theorem Made_spec {p q r : Int} {K : Int → Int → World → Prop} (hp : I64 p) (hq : I64 q) (hr : I64 r)
    (hK : ∀ a b w', rightP a b → I64 a → I64 b → Fr F0 w w' → K a b w') : probityref01_Made_sh p q r K w := by
  refine ⟨?_⟩
  unfold probityref01_Made_sd
  intro w1
  have m : Mem w w1 _ := Mem.nil.alloc
  clear_value w1
  intro w2
  have m : Mem w w2 _ := m.alloc
  clear_value w2
  have b0 : (0 ≤ (0 : Int) ∧ (0 : Int) < ((3 : Nat) : Int)) := by decide
  have b1 : (0 ≤ (1 : Int) ∧ (1 : Int) < ((3 : Nat) : Int)) := by decide
  have b2 : (0 ≤ (2 : Int) ∧ (2 : Int) < ((3 : Nat) : Int)) := by decide
  have l0 : w2.cell? ((Addr.mk w.heap.size 0 none).add ((0 : Int).toNat * 1)) = some (.int .i64 p) := m.ld 1 rfl rfl
  have l1 : w2.cell? ((Addr.mk w.heap.size 0 none).add ((1 : Int).toNat * 1)) = some (.int .i64 q) := by
    rw [add_mk]; exact m.ld 1 rfl rfl
  have l2 : w2.cell? ((Addr.mk w.heap.size 0 none).add ((2 : Int).toNat * 1)) = some (.int .i64 r) := by
    rw [add_mk]; exact m.ld 1 rfl rfl
  refine ⟨b0, p, l0, b1, q, l1, b2, r, l2, Mod_spec (by omega) (by omega) ?_⟩
  have t20 := tmod_bound p (m := 20) (by decide)
  have tM := tmod_bound p (m := 1000000) (by decide)
  have t100 := tmod_bound p (m := 100) (by decide)
  rw [cnd_beq]
  refine ⟨fun _ => ⟨b0, p, l0, by omega, b1, q, l1, Mod_spec (by omega) (by omega) ⟨inR64 (by omega) (by omega), Made_k0 m 0 rfl ⟨by omega, by omega⟩ ⟨by omega, by omega⟩ hK⟩⟩, fun _ => ?_⟩
  rw [cnd_beq]
  refine ⟨fun _ => ⟨b0, p, l0, by omega, b1, q, l1, Mod_spec (by omega) (by omega) ⟨inR64 (by omega) (by omega), Made_k0 m 0 rfl ⟨by omega, by omega⟩ ⟨by omega, by omega⟩ hK⟩⟩, fun _ => ?_⟩
  rw [cnd_beq]
  refine ⟨fun _ => Made_k0 m 0 rfl hp ⟨by decide, by decide⟩ hK, fun _ => ?_⟩
  rw [cnd_beq]
  refine ⟨fun _ => ⟨b0, p, l0, by omega, inR64 (by omega) (by omega), b1, q, l1, Mod_spec (by omega) (by omega) ⟨inR64 (by omega) (by omega), Made_k0 m 0 rfl ⟨by omega, by omega⟩ ⟨by omega, by omega⟩ hK⟩⟩, fun _ => ?_⟩
  rw [cnd_beq]
  refine ⟨fun _ => ⟨b1, q, l1, Mod_spec (by omega) (by omega) ⟨inR64 (by omega) (by omega), inR64 (by omega) (by omega), Made_k0 m 0 rfl ⟨by decide, by decide⟩ ⟨by omega, by omega⟩ hK⟩⟩, fun _ => ?_⟩
  rw [cnd_beq]
  refine ⟨fun _ => ⟨b0, p, l0, by omega, b1, q, l1, Mod_spec (by omega) (by omega) ⟨inR64 (by omega) (by omega), Made_k0 m 0 rfl ⟨by omega, by omega⟩ ⟨by omega, by omega⟩ hK⟩⟩, fun _ => Made_k0 m 0 rfl hp hq hK⟩
end
end Go.Proofs.YtfclokkfnkieoaaDoor
