/- The small functions of package ratio: sizes, the greatest common divisor, a number in lowest terms. Conditions: none. -/
import Derived.Test.YtfclokkfnkieoaaDoorRS3
import Derived.Test.YtfclokkfnkieoaaDoorPwR
namespace Go.Proofs.YtfclokkfnkieoaaDoor
open Go Pw

def I64 (n : Int) : Prop := -9223372036854775808 ≤ n ∧ n < 9223372036854775808

section
variable {w : World}

theorem size_spec {n : Int} {K : Int → World → Prop} (h : I64 n) (hK : K (n.natAbs : Int) w) : ratio_size_sh n K w := by
  obtain ⟨h1, h2⟩ := h
  refine ⟨?_⟩
  unfold ratio_size_sd
  rw [cnd_prop]
  constructor
  · intro hn
    have e : IntKind.wrap .u64 ((0 : Int) - IntKind.wrap .u64 n) = (n.natAbs : Int) := by
      simp only [wu64_mod]
      omega
    rw [e]
    exact hK
  · intro hn
    have e : IntKind.wrap .u64 n = (n.natAbs : Int) := by
      simp only [wu64_mod]
      omega
    rw [e]
    exact hK

theorem gcd_spec {a b : Nat} {K : Int → World → Prop} (hK : ∀ w', Fr F0 w w' → K ((Nat.gcd a b : Nat) : Int) w') : ratio_gcd_sh a b K w := by
  refine ⟨⟨fun x y w' => ∃ m n : Nat, x = m ∧ y = n ∧ Nat.gcd m n = Nat.gcd a b ∧ Fr F0 w w', fun _ y _ => y.toNat, ⟨a, b, rfl, rfl, rfl, Fr.refl⟩, ?_⟩⟩
  rintro x y w1 ⟨m, n, rfl, rfl, hg, hf⟩
  unfold ratio_gcd_b0
  rw [cnd_prop]
  constructor
  · intro h
    refine ⟨by omega, ⟨trivial, n, m % n, rfl, rfl, ?_, hf.trans (G := F0) Fr.drew fun b hb _ => hb⟩, ?_⟩
    · rw [← hg, Nat.gcd_comm n, ← Nat.gcd_rec, Nat.gcd_comm]
    · rw [tmodN]
      have := Nat.mod_lt m (show 0 < n by omega)
      show ((m % n : Nat) : Int).toNat < (n : Int).toNat
      rw [Int.toNat_natCast, Int.toNat_natCast]
      exact this
  · intro h
    have h0 : n = 0 := by omega
    subst h0
    rw [Nat.gcd_zero_right] at hg
    rw [hg]
    exact hK w1 hf

theorem zero_spec {K : Int → Int → World → Prop} (hK : ∀ w', Fr F0 w w' → K 0 1 w') : ratio_zero_sh K w := by
  refine ⟨?_⟩
  unfold ratio_zero_sd
  intro w1
  have m : Mem w w1 _ := Mem.nil.alloc
  clear_value w1
  refine ⟨m.wr 0 rfl rfl, ?_⟩
  intro w2
  have m : Mem w w2 _ := m.set 0 rfl
  clear_value w2
  refine ⟨m.wr 0 rfl rfl, ?_⟩
  intro w3
  have m : Mem w w3 _ := m.set 0 rfl
  clear_value w3
  exact ⟨_, m.ld 0 rfl rfl, _, m.ld 0 rfl rfl, hK w3 m.1⟩

/-- A result of two ints and a truth value, as it is handed on. -/
def Kr (K : Int → Int → Bool → World → Prop) (r : RR) (w : World) : Prop := K r.n r.d r.ok w

theorem wi64_in {n : Int} (h : I64 n) : IntKind.wrap .i64 n = n := wrap64_in h.1 h.2

theorem rat_k0_spec {w0 : World} {l : List (Nat × List Value)} {b : Nat} {x y : Value} {K : Int → Int → Bool → World → Prop} (m : Mem w0 w l) (j : Nat) (hj : l[j]? = some (b, [x, y])) (hK : ∀ w', Fr F0 w0 w' → K 0 1 false w') : ratio_rat_k0 ⟨b, 0, none⟩ K w := by
  refine ⟨zero_spec fun w1 hf => ?_⟩
  have m : Mem w0 w1 _ := m.fr hf
  have hlt : j < l.length := (List.getElem?_eq_some_iff.1 hj).1
  simp -zeta only [add_mk, Nat.zero_add]
  refine ⟨m.wr j hj rfl, ?_⟩
  intro w2
  have m : Mem w0 w2 _ := m.set j hj
  clear_value w2
  refine ⟨m.wr j (cs := [Value.int .i64 0, y]) (by simp [hlt]) rfl, ?_⟩
  intro w3
  have m : Mem w0 w3 _ := m.set j (cs := [Value.int .i64 0, y]) (by simp [hlt])
  clear_value w3
  exact ⟨_, m.ld j (cs := [Value.int .i64 0, Value.int .i64 1]) (by simp [hlt]) rfl, _, m.ld j (cs := [Value.int .i64 0, Value.int .i64 1]) (by simp [hlt]) rfl, hK w3 m.1⟩

theorem rat_k2_spec {w0 : World} {d : Nat} {num x0 x1 : Value} {n : Int} {bd bt : Nat} {l : List (Nat × List Value)} {K : Int → Int → Bool → World → Prop} (m : Mem w0 w l) (jd jt : Nat) (hd : l[jd]? = some (bd, [num, .int .u64 d])) (ht : l[jt]? = some (bt, [x0, x1])) (hlt : d < 9223372036854775808)
    (hK : ∀ w', Fr F0 w0 w' → K n d true w') : ratio_rat_k2 ⟨bd, 0, none⟩ ⟨bt, 0, none⟩ n K w := by
  refine ⟨?_⟩
  unfold ratio_rat_k2d
  have hl : jt < l.length := (List.getElem?_eq_some_iff.1 ht).1
  simp -zeta only [add_mk, Nat.zero_add]
  refine ⟨_, m.ld jd hd rfl, m.wr jt ht rfl, ?_⟩
  intro w2
  have m : Mem w0 w2 _ := m.set jt ht
  clear_value w2
  refine ⟨m.wr jt (cs := [Value.int .i64 n, x1]) (by simp [hl]) rfl, ?_⟩
  intro w3
  have m : Mem w0 w3 _ := m.set jt (cs := [Value.int .i64 n, x1]) (by simp [hl])
  clear_value w3
  refine ⟨_, m.ld jt (cs := [Value.int .i64 n, Value.int .i64 (IntKind.wrap .i64 d)]) (by simp [hl]) rfl, _, m.ld jt (cs := [Value.int .i64 n, Value.int .i64 (IntKind.wrap .i64 d)]) (by simp [hl]) rfl, ?_⟩
  rw [wi64_in ⟨by omega, by omega⟩]
  exact hK w3 m.1

theorem rat_spec {neg : Bool} {n d : Nat} {K : Int → Int → Bool → World → Prop} (hK : ∀ w', Fr F0 w w' → Kr K (ratI neg n d) w') :
    ratio_rat_sh neg ((n / 18446744073709551616 : Nat) : Int) ((n % 18446744073709551616 : Nat) : Int) ((d / 18446744073709551616 : Nat) : Int) ((d % 18446744073709551616 : Nat) : Int) K w := by
  have bad : ¬ (d < 9223372036854775808 ∧ (n < 9223372036854775808 ∨ n = 9223372036854775808 ∧ neg = true)) → ∀ w', Fr F0 w w' → K 0 1 false w' := by
    intro h w' hf
    have := hK w' hf
    unfold ratI at this
    rw [if_neg h] at this
    exact this
  have good : (d < 9223372036854775808 ∧ (n < 9223372036854775808 ∨ n = 9223372036854775808 ∧ neg = true)) → ∀ w', Fr F0 w w' → K (if neg then -(n : Int) else n) d true w' := by
    intro h w' hf
    have := hK w' hf
    unfold ratI at this
    rw [if_pos h] at this
    exact this
  have hn1 : n / 18446744073709551616 * 18446744073709551616 + n % 18446744073709551616 = n := Nat.div_add_mod' _ _
  have hd1 : d / 18446744073709551616 * 18446744073709551616 + d % 18446744073709551616 = d := Nat.div_add_mod' _ _
  have hn2 : n % 18446744073709551616 < 18446744073709551616 := Nat.mod_lt _ (by omega)
  have hd2 : d % 18446744073709551616 < 18446744073709551616 := Nat.mod_lt _ (by omega)
  generalize hna : n / 18446744073709551616 = na at *
  generalize hnb : n % 18446744073709551616 = nb at *
  generalize hda : d / 18446744073709551616 = da at *
  generalize hdb : d % 18446744073709551616 = db at *
  clear hna hnb hda hdb
  refine ⟨?_⟩
  unfold ratio_rat_sd
  intro w1
  have m : Mem w w1 _ := Mem.nil.alloc
  clear_value w1
  intro w2
  have m : Mem w w2 _ := m.alloc
  clear_value w2
  intro w3
  have m : Mem w w3 _ := m.alloc
  clear_value w3
  refine ⟨_, m.ld 2 rfl rfl, ?_⟩
  rw [cnd_prop]
  refine ⟨fun h => rat_k0_spec m 0 rfl (bad (by omega)), fun h1 => ?_⟩
  refine ⟨_, m.ld 1 rfl rfl, ?_⟩
  rw [cnd_prop]
  refine ⟨fun h => rat_k0_spec m 0 rfl (bad (by omega)), fun h2 => ?_⟩
  have h1' : na = 0 := by omega
  have h2' : da = 0 := by omega
  subst h1'
  subst h2'
  simp only [Nat.zero_mul, Nat.zero_add] at hn1 hd1
  subst hn1
  subst hd1
  refine ⟨_, m.ld 1 rfl rfl, ?_⟩
  rw [cnd_prop]
  refine ⟨fun h => rat_k0_spec m 0 rfl (bad (by omega)), fun h3 => ?_⟩
  refine ⟨_, m.ld 2 rfl rfl, ?_⟩
  rw [cnd_prop]
  refine ⟨fun h => rat_k0_spec m 0 rfl (bad (by omega)), fun h4 => ?_⟩
  have k1 : (nb < 9223372036854775808 ∨ nb = 9223372036854775808 ∧ neg = true) → ratio_rat_k1 neg ⟨w.heap.size, 0, none⟩ ⟨w1.heap.size, 0, none⟩ ⟨w2.heap.size, 0, none⟩ K w3 := by
    intro hfit
    refine ⟨?_⟩
    unfold ratio_rat_k1d
    simp -zeta only [add_mk, Nat.zero_add]
    refine ⟨_, m.ld 2 rfl rfl, ?_⟩
    have hg := good ⟨by omega, hfit⟩
    cases neg
    · rw [cnd_false]
      refine rat_k2_spec m 1 0 rfl rfl (by omega) ?_
      rw [wi64_in ⟨by omega, by simp at hfit; omega⟩]
      exact hg
    · rw [cnd_true]
      refine rat_k2_spec m 1 0 rfl rfl (by omega) ?_
      have e : IntKind.wrap .i64 ((0 : Int) - IntKind.wrap .i64 (nb : Int)) = -(nb : Int) := by
        rcases hfit with hfit | ⟨rfl, _⟩
        · rw [wi64_in (n := (nb : Int)) ⟨by omega, by omega⟩, wi64_in ⟨by omega, by omega⟩]
          omega
        · decide
      rw [e]
      exact hg
  refine ⟨_, m.ld 2 rfl rfl, ?_⟩
  rw [cnd_beq]
  refine ⟨fun h => ?_, fun h5 => k1 (.inl (by omega))⟩
  cases neg
  · rw [Bool.not_false, cnd_true]
    exact rat_k0_spec m 0 rfl (bad (by simp; omega))
  · rw [Bool.not_true, cnd_false]
    exact k1 (.inr ⟨by omega, rfl⟩)
end
end Go.Proofs.YtfclokkfnkieoaaDoor
