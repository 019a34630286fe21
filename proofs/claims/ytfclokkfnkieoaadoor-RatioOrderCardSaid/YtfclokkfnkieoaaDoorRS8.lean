/- Sums, as package ratio computes them, in every order that Go leaves open. Conditions: none. -/
import Derived.Test.YtfclokkfnkieoaaDoorRS7
namespace Go.Proofs.YtfclokkfnkieoaaDoor
open Go Pw

section
variable {w w0 : World}

theorem sum_k0_spec {ba bb b1 b2 bt bx by' : Nat} {c1 c2 : List Value} {t0 t1 : Value} {xs ys : Bool} {xn xd yn yd g A B : Nat} {K : Int → Int → Bool → World → Prop}
    (m : Mem w0 w [(b1, c1), (b2, c2), (bt, [t0, t1]), (by', [.bool ys, .int .u64 yn, .int .u64 yd]), (bx, [.bool xs, .int .u64 xn, .int .u64 xd])]) (ja jb : Nat)
    (ha : [(b1, c1), (b2, c2), (bt, [t0, t1]), (by', [.bool ys, .int .u64 yn, .int .u64 yd]), (bx, [.bool xs, .int .u64 xn, .int .u64 xd])][ja]? = some (ba, [.int .u64 ((A / 18446744073709551616 : Nat) : Int), .int .u64 ((A % 18446744073709551616 : Nat) : Int)]))
    (hb : [(b1, c1), (b2, c2), (bt, [t0, t1]), (by', [.bool ys, .int .u64 yn, .int .u64 yd]), (bx, [.bool xs, .int .u64 xn, .int .u64 xd])][jb]? = some (bb, [.int .u64 ((B / 18446744073709551616 : Nat) : Int), .int .u64 ((B % 18446744073709551616 : Nat) : Int)]))
    (hA : A < 170141183460469231731687303715884105728) (hB : B < 170141183460469231731687303715884105728) (hg : 0 < g) (bg : g < 18446744073709551616) (bxd : xd < 18446744073709551616) (byd : yd < 18446744073709551616)
    (hK : ∀ s n, sumS xs ys A B = (s, n) → (n = 0 → ∀ w', Fr F0 w0 w' → K 0 1 true w') ∧ ∀ w', Fr F0 w0 w' → Kr K (ratI s (n / Nat.gcd g (n % g)) (xd / g * (yd / Nat.gcd g (n % g)))) w') :
    ratio_sum_k0 ⟨bx, 0, none⟩ ⟨by', 0, none⟩ ⟨bt, 0, none⟩ g ⟨ba, 0, none⟩ ⟨bb, 0, none⟩ K w := by
  refine ⟨?_⟩
  unfold ratio_sum_k0d
  simp -zeta only [add_mk, Nat.zero_add]
  intro w1
  have m : Mem w0 w1 _ := m.alloc
  clear_value w1
  refine ⟨_, m.ld 5 rfl rfl, _, m.ld 5 rfl rfl, _, m.ld 4 rfl rfl, ?_⟩
  rw [cnd_iff]
  constructor
  · intro h
    have hxy : xs = ys := by simpa using h
    have hs : sumS xs ys A B = (xs, A + B) := by unfold sumS; rw [if_pos hxy]
    obtain ⟨hz, hk⟩ := hK _ _ hs
    refine ⟨_, m.ld (ja + 1) ha rfl, _, m.ld (ja + 1) ha rfl, _, m.ld (jb + 1) hb rfl, _, m.ld (jb + 1) hb rfl, wadd_spec hA hB fun w2 hf => ?_⟩
    have m : Mem w0 w2 _ := m.fr hf
    refine ⟨m.wr 0 rfl rfl, ?_⟩
    intro w3
    have m : Mem w0 w3 _ := m.set 0 rfl
    clear_value w3
    refine ⟨m.wr 0 rfl rfl, ?_⟩
    intro w4
    have m : Mem w0 w4 _ := m.set 0 rfl
    clear_value w4
    exact sum_k1_spec m (by omega) hg bg bxd byd hz hk
  · intro h
    have hxy : ¬ xs = ys := by
      intro he
      subst he
      simp at h
    refine ⟨_, m.ld (ja + 1) ha rfl, _, m.ld (ja + 1) ha rfl, _, m.ld (jb + 1) hb rfl, _, m.ld (jb + 1) hb rfl, compare_spec fun w2 hf => ?_⟩
    have m : Mem w0 w2 _ := m.fr hf
    rw [cnd_prop]
    constructor
    · intro hc
      have hle : B ≤ A := by
        unfold cmpI at hc
        split at hc
        · omega
        · omega
      have hs : sumS xs ys A B = (xs, A - B) := by unfold sumS; rw [if_neg hxy, if_pos hle]
      obtain ⟨hz, hk⟩ := hK _ _ hs
      refine ⟨_, m.ld (ja + 1) ha rfl, _, m.ld (ja + 1) ha rfl, _, m.ld (jb + 1) hb rfl, _, m.ld (jb + 1) hb rfl, wsub_spec (by omega) hle fun w3 hf => ?_⟩
      have m : Mem w0 w3 _ := m.fr hf
      refine ⟨m.wr 0 rfl rfl, ?_⟩
      intro w4
      have m : Mem w0 w4 _ := m.set 0 rfl
      clear_value w4
      refine ⟨m.wr 0 rfl rfl, ?_⟩
      intro w5
      have m : Mem w0 w5 _ := m.set 0 rfl
      clear_value w5
      exact sum_k1_spec m (by omega) hg bg bxd byd hz hk
    · intro hc
      have hle : ¬ B ≤ A := by
        intro hle
        apply hc
        unfold cmpI
        split
        · omega
        · split <;> omega
      have hs : sumS xs ys A B = (ys, B - A) := by unfold sumS; rw [if_neg hxy, if_neg hle]
      obtain ⟨hz, hk⟩ := hK _ _ hs
      intro w3
      have m : Mem w0 w3 _ := m.drew
      clear_value w3
      refine ⟨fun u => u.cell? ⟨bb, 0, none⟩ = some (.int .u64 ((B / 18446744073709551616 : Nat) : Int)) ∧ u.cell? ⟨bb, 1, none⟩ = some (.int .u64 ((B % 18446744073709551616 : Nat) : Int)) ∧ u.cell? ⟨ba, 0, none⟩ = some (.int .u64 ((A / 18446744073709551616 : Nat) : Int)) ∧ u.cell? ⟨ba, 1, none⟩ = some (.int .u64 ((A % 18446744073709551616 : Nat) : Int)) ∧ u.cell? ⟨by', 0, none⟩ = some (.bool ys), ?_, ?_⟩
      · exact ⟨m.ld (jb + 1) hb rfl, m.ld (jb + 1) hb rfl, m.ld (ja + 1) ha rfl, m.ld (ja + 1) ha rfl, m.ld 4 rfl rfl⟩
      refine ⟨_, fun _ h => h.1, _, fun _ h => h.2.1, _, fun _ h => h.2.2.1, _, fun _ h => h.2.2.2.1, _, fun _ h => h.2.2.2.2, ?_⟩
      refine wsub_spec (by omega) (by omega) fun w4 hf => ?_
      have m : Mem w0 w4 _ := m.fr hf
      refine ⟨?_, ?_⟩
      · exact ⟨m.ld (jb + 1) hb rfl, m.ld (jb + 1) hb rfl, m.ld (ja + 1) ha rfl, m.ld (ja + 1) ha rfl, m.ld 4 rfl rfl⟩
      refine ⟨m.wr 0 rfl rfl, ?_⟩
      intro w5
      have m : Mem w0 w5 _ := m.set 0 rfl
      clear_value w5
      refine ⟨m.wr 0 rfl rfl, ?_⟩
      intro w6
      have m : Mem w0 w6 _ := m.set 0 rfl
      clear_value w6
      refine ⟨?_, ?_⟩
      · exact ⟨m.ld (jb + 1) hb rfl, m.ld (jb + 1) hb rfl, m.ld (ja + 1) ha rfl, m.ld (ja + 1) ha rfl, m.ld 4 rfl rfl⟩
      exact sum_k1_spec m (by omega) hg bg bxd byd hz hk
end
end Go.Proofs.YtfclokkfnkieoaaDoor
