/- The reference's integers: laying them out in digits, reading them back, lowest terms. Conditions: none. -/
import Derived.Test.YtfclokkfnkieoaaDoorRF4
namespace Go.Proofs.YtfclokkfnkieoaaDoor
open Go Pw

section
variable {w w' w0 : World} {s a b : Sl} {k j n m : Nat}

/-- A result of a truth value and a slice, laid into its variable and read again. -/
theorem putbs {l : List (Nat × List Value)} {b : Nat} {x y : Value} {s : Sl} {e : Bool} {K : Bool → Sl → World → Prop} (m : Mem w0 w l) (j : Nat) (hj : l[j]? = some (b, [x, y])) (hK : ∀ w', Mem w0 w' (l.set j (b, [.bool e, .slice s.p s.l s.c])) → Fr (fun c => c = b) w w' → K e s w') :
    wrOk w (Addr.mk b 0 none) ∧ (let w4 : World := w.setCell (Addr.mk b 0 none) (Value.bool e)
      wrOk w4 (Addr.mk b 1 none) ∧ (let w5 : World := w4.setCell (Addr.mk b 1 none) (Value.slice s.p s.l s.c)
        ∃ x6 : Bool, w5.cell? (Addr.mk b 0 none) = some (Value.bool x6) ∧ ∃ x7 : Sl, w5.cell? (Addr.mk b 1 none) = some (Value.slice x7.p x7.l x7.c) ∧ K x6 x7 w5)) := by
  have hl : j < l.length := (List.getElem?_eq_some_iff.1 hj).1
  refine ⟨m.wr j hj rfl, ?_⟩
  intro w2
  have m : Mem w0 w2 _ := m.set j hj
  have f2 : Fr (fun c => c = b) w w2 := Fr.set rfl
  clear_value w2
  refine ⟨m.wr j (cs := [Value.bool e, y]) (by simp [hl]) rfl, ?_⟩
  intro w3
  have m : Mem w0 w3 _ := m.set j (cs := [Value.bool e, y]) (by simp [hl])
  have f3 : Fr (fun c => c = b) w w3 := f2.trans (Fr.set (F := fun c => c = b) rfl) fun _ h _ => h
  clear_value w3
  refine ⟨_, m.ld j (cs := [Value.bool e, Value.slice s.p s.l s.c]) (by simp [hl]) rfl, s, m.ld j (cs := [Value.bool e, Value.slice s.p s.l s.c]) (by simp [hl]) rfl, hK w3 ?_ f3⟩
  simpa using m

theorem tr_push {l : List Nat} {d : Nat} (hd : d ≠ 0) : Tr (l ++ [d]) := .inr (by simp [List.getD_eq_getElem?_getD, hd])

theorem rof_spec {n : Int} {K : Bool → Sl → World → Prop} (h : I64 n) (hK : ∀ s' w', Nt 4 w' s' n.natAbs → Fr F0 w w' → K (decide (n < 0)) s' w') : probityref01_of_sh n K w := by
  have hbound := natAbs_pow_four h
  refine ⟨?_⟩
  unfold probityref01_of_sd
  intro w1
  have m : Mem w w1 _ := Mem.nil.alloc
  clear_value w1
  have hlt1 : w.heap.size < w1.heap.size := (m.2.1 _ (List.mem_cons_self ..)).lt
  have k0 : probityref01_of_k0 n (Addr.mk w.heap.size 0 none) (Sl.mk none 0 0) (n.natAbs : Int) K w1 := by
    refine ⟨⟨⟨fun l mm w' => ∃ (lo : List Nat) (m' : Nat), mm = m' ∧ Mk w1 1 di w' l lo ∧ Dg lo ∧ vl lo + 65536 ^ lo.length * m' = n.natAbs ∧ (m' = 0 → Tr lo) ∧ lo.length ≤ 4, fun _ mm _ => mm.toNat, ⟨[], n.natAbs, rfl, Mk.nil Fr.refl, Dg.nil, by simp [vl], fun _ => .inl rfl, by simp⟩, ?_⟩⟩⟩
    rintro l mm w2 ⟨lo, m', rfl, ho, hdo, hv, htr, hlen⟩
    unfold probityref01_of_b1
    rw [cnd_prop]
    constructor
    · intro hpos
      have hlt : lo.length < 4 := by
        rcases Nat.lt_or_ge lo.length 4 with h4 | h4
        · exact h4
        · have : 65536 ^ 4 * 1 ≤ 65536 ^ lo.length * m' := Nat.mul_le_mul (Nat.pow_le_pow_right (by decide) h4) (by omega)
          omega
      have hm64 : m' < 18446744073709551616 := by
        have : 1 * m' ≤ 65536 ^ lo.length * m' := Nat.mul_le_mul_right _ (Nat.pow_pos (by decide))
        have : (65536 : Nat) ^ 4 = 18446744073709551616 := by decide
        omega
      refine ⟨by omega, ?_⟩
      have ew : IntKind.wrap .i64 (Int.tmod (m' : Int) 65536) = ((m' % 65536 : Nat) : Int) := by
        rw [show (65536 : Int) = ((65536 : Nat) : Int) from rfl, tmodN]
        exact wi64_in ⟨by omega, by omega⟩
      rw [ew]
      refine ho.push (a := m' % 65536) rfl rfl (ie_ok _ _) rfl (by omega) (by omega) fun r w3 h3 _ => ?_
      refine ⟨by omega, inRu (by rw [show (65536 : Int) = ((65536 : Nat) : Int) from rfl, tdivN]; omega) (by rw [show (65536 : Int) = ((65536 : Nat) : Int) from rfl, tdivN]; omega), ⟨⟨rfl, rfl, trivial⟩, lo ++ [m' % 65536], m' / 65536, rfl, h3, hdo.push (by omega), ?_, fun h0 => tr_push (by omega), by simp; omega⟩, ?_⟩
      · rw [vl_append, ← hv]
        simp only [vl, Nat.mul_zero, Nat.add_zero, List.length_append, List.length_cons, List.length_nil, Nat.zero_add, Nat.pow_succ]
        rw [Nat.mul_assoc, Nat.add_assoc, ← Nat.mul_add, Nat.mod_add_div]
      · show (Int.tdiv (m' : Int) 65536).toNat < ((m' : Int)).toNat
        rw [show (65536 : Int) = ((65536 : Nat) : Int) from rfl, tdivN]
        omega
    · intro h0
      have hm0 : m' = 0 := by omega
      subst hm0
      have m := m.fr ho.fr0
      have hs : ∀ c, inB l c → ¬ c = w.heap.size := fun c hc e => by
        have h1 := ho.nw c hc
        omega
      refine putbs m 0 rfl fun w3 m3 hf3 => hK l w3 ⟨lo, ho.vw.frF hf3 hs, hdo, htr rfl, by rw [← hv]; simp, hlen⟩ m3.1
  have hn1 := h.1
  have hn2 := h.2
  rw [cnd_prop]
  constructor
  · intro hn
    have e : IntKind.wrap .u64 ((0 : Int) - IntKind.wrap .u64 n) = (n.natAbs : Int) := by
      simp only [wu64_mod]
      omega
    rw [e]
    exact k0
  · intro hn
    have e : IntKind.wrap .u64 n = (n.natAbs : Int) := by
      simp only [wu64_mod]
      omega
    rw [e]
    exact k0
end
end Go.Proofs.YtfclokkfnkieoaaDoor
