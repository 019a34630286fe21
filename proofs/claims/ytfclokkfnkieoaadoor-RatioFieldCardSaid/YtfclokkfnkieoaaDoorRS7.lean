/- Sums and products, as package ratio computes them. Conditions: none. -/
import Derived.Test.YtfclokkfnkieoaaDoorRS6
import Derived.Test.YtfclokkfnkieoaaDoorPwS
namespace Go.Proofs.YtfclokkfnkieoaaDoor
open Go Pw

section
variable {w w0 : World}

theorem times_k0_spec {l : List (Nat × List Value)} {b : Nat} {x y : Value} {K : Int → Int → Bool → World → Prop} (m : Mem w0 w l) (j : Nat) (hj : l[j]? = some (b, [x, y])) (hK : ∀ w', Fr F0 w0 w' → K 0 1 true w') : ratio_times_k0 ⟨b, 0, none⟩ K w := by
  refine ⟨?_⟩
  unfold ratio_times_k0d
  simp -zeta only [add_mk, Nat.zero_add]
  exact zero_spec fun w1 hf => put2b (m.fr hf) j hj hK

theorem fitQ_zero : fitQ 0 = ⟨0, 1, true⟩ := rfl

theorem times_spec {xs ys : Bool} {xn xd yn yd : Nat} {K : Int → Int → Bool → World → Prop} (hx : Nat.Coprime xn xd) (hy : Nat.Coprime yn yd) (hxd : 0 < xd) (hyd : 0 < yd)
    (bxn : xn < 18446744073709551616) (bxd : xd < 18446744073709551616) (byn : yn < 18446744073709551616) (byd : yd < 18446744073709551616)
    (hK : ∀ w', Fr F0 w w' → Kr K (fitQ (mkRat (sgn xs xn) xd * mkRat (sgn ys yn) yd)) w') : ratio_times_sh xs xn xd ys yn yd K w := by
  have sz : ∀ s : Bool, sgn s 0 = 0 := fun s => by cases s <;> rfl
  refine ⟨?_⟩
  unfold ratio_times_sd
  intro w1
  have m : Mem w w1 _ := Mem.nil.alloc
  clear_value w1
  intro w2
  have m : Mem w w2 _ := m.alloc
  clear_value w2
  intro w3
  have m : Mem w w3 _ := m.alloc
  clear_value w3
  refine ⟨_, m.ld 2 rfl rfl, ?_⟩
  rw [cnd_beq]
  refine ⟨fun h => ?_, fun h1 => ?_⟩
  · have h0 : xn = 0 := by omega
    subst h0
    simp only [sz, Rat.zero_mkRat, Rat.zero_mul, fitQ_zero] at hK
    exact times_k0_spec m 0 rfl hK
  refine ⟨_, m.ld 1 rfl rfl, ?_⟩
  rw [cnd_beq]
  refine ⟨fun h => ?_, fun h2 => ?_⟩
  · have h0 : yn = 0 := by omega
    subst h0
    simp only [sz, Rat.zero_mkRat, Rat.mul_zero, fitQ_zero] at hK
    exact times_k0_spec m 0 rfl hK
  intro w4
  have m : Mem w w4 _ := m.drew
  clear_value w4
  refine ⟨fun u => Rs u _, m.sub 0 rfl, _, fun _ h => h.ld 2 rfl rfl, _, fun _ h => h.ld 1 rfl rfl, _, fun _ h => h.ld 1 rfl rfl, _, fun _ h => h.ld 2 rfl rfl, ?_⟩
  refine gcd_spec fun w5 hf => ?_
  have m : Mem w w5 _ := m.fr hf
  refine ⟨m.sub 0 rfl, gcd_spec fun w6 hf => ?_⟩
  have m : Mem w w6 _ := m.fr hf
  refine ⟨m.sub 0 rfl, ?_⟩
  intro w7
  have m : Mem w w7 _ := m.drew
  clear_value w7
  have hg : 0 < Nat.gcd xn yd := Nat.gcd_pos_of_pos_right _ hyd
  have hh : 0 < Nat.gcd yn xd := Nat.gcd_pos_of_pos_right _ hxd
  have i1 : xn / Nat.gcd xn yd < 18446744073709551616 := Nat.lt_of_le_of_lt (Nat.div_le_self _ _) bxn
  have i2 : yn / Nat.gcd yn xd < 18446744073709551616 := Nat.lt_of_le_of_lt (Nat.div_le_self _ _) byn
  have i3 : xd / Nat.gcd yn xd < 18446744073709551616 := Nat.lt_of_le_of_lt (Nat.div_le_self _ _) bxd
  have i4 : yd / Nat.gcd xn yd < 18446744073709551616 := Nat.lt_of_le_of_lt (Nat.div_le_self _ _) byd
  have r : ∀ a b : Nat, a / b < 18446744073709551616 → inR .u64 (Int.tdiv (a : Int) (b : Int)) := fun a b h => by
    rw [tdivN]
    exact inRu (Int.natCast_nonneg _) (by omega)
  refine ⟨fun u => Rs u _, m.sub 0 rfl, _, fun _ h => h.ld 2 rfl rfl, _, fun _ h => h.ld 1 rfl rfl, _, fun _ h => h.ld 2 rfl rfl, by omega, r _ _ i1, _, fun _ h => h.ld 1 rfl rfl, by omega, r _ _ i2, _, fun _ h => h.ld 2 rfl rfl, by omega, r _ _ i3, _, fun _ h => h.ld 1 rfl rfl, by omega, r _ _ i4, ?_⟩
  simp -zeta only [tdivN]
  refine product_spec i1 i2 fun w8 hf => ?_
  have m : Mem w w8 _ := m.fr hf
  refine ⟨m.sub 0 rfl, product_spec i3 i4 fun w9 hf => ?_⟩
  have m : Mem w w9 _ := m.fr hf
  refine ⟨m.sub 0 rfl, rat_spec fun w10 hf => ?_⟩
  have m : Mem w w10 _ := m.fr hf
  refine ⟨m.sub 0 rfl, put2b m 0 rfl fun w11 hf => ?_⟩
  have := hK w11 hf
  rw [← times_q hx hy (by omega) (by omega)] at this
  have e : (!(xs == ys)) = (xs != ys) := rfl
  rw [e]
  exact this

theorem sum_k1_spec {bn b1 b2 bt bx by' : Nat} {c1 c2 : List Value} {t0 t1 : Value} {xs ys s : Bool} {xn xd yn yd g n : Nat} {K : Int → Int → Bool → World → Prop}
    (m : Mem w0 w [(bn, [.int .u64 ((n / 18446744073709551616 : Nat) : Int), .int .u64 ((n % 18446744073709551616 : Nat) : Int)]), (b1, c1), (b2, c2), (bt, [t0, t1]), (by', [.bool ys, .int .u64 yn, .int .u64 yd]), (bx, [.bool xs, .int .u64 xn, .int .u64 xd])])
    (hn : n < 340282366920938463463374607431768211456) (hg : 0 < g) (bg : g < 18446744073709551616) (bxd : xd < 18446744073709551616) (byd : yd < 18446744073709551616)
    (hz : n = 0 → ∀ w', Fr F0 w0 w' → K 0 1 true w')
    (hK : ∀ w', Fr F0 w0 w' → Kr K (ratI s (n / Nat.gcd g (n % g)) (xd / g * (yd / Nat.gcd g (n % g)))) w') :
    ratio_sum_k1 ⟨bx, 0, none⟩ ⟨by', 0, none⟩ ⟨bt, 0, none⟩ g ⟨bn, 0, none⟩ s K w := by
  refine ⟨?_⟩
  unfold ratio_sum_k1d
  simp -zeta only [add_mk, Nat.zero_add]
  refine ⟨_, m.ld 0 rfl rfl, _, m.ld 0 rfl rfl, ?_⟩
  rw [cnd_iff]
  constructor
  · intro h
    simp only [Bool.and_eq_true, beq_iff_eq, and_true] at h
    have h0 : n = 0 := by
      have := Nat.div_add_mod n 18446744073709551616
      omega
    exact zero_spec fun w1 hf => put2b (m.fr hf) 3 rfl (hz h0)
  · intro _
    refine ⟨_, m.ld 0 rfl rfl, _, m.ld 0 rfl rfl, wover_spec hn hg bg fun w1 hf => ?_⟩
    have m : Mem w0 w1 _ := m.fr hf
    intro w2
    have m : Mem w0 w2 _ := m.alloc
    clear_value w2
    refine ⟨m.wr 0 rfl rfl, ?_⟩
    intro w3
    have m : Mem w0 w3 _ := m.set 0 rfl
    clear_value w3
    refine ⟨m.wr 0 rfl rfl, ?_⟩
    intro w4
    have m : Mem w0 w4 _ := m.set 0 rfl
    clear_value w4
    refine gcd_spec fun w5 hf => ?_
    have m : Mem w0 w5 _ := m.fr hf
    have hh : 0 < Nat.gcd g (n % g) := Nat.gcd_pos_of_pos_left _ hg
    have bh : Nat.gcd g (n % g) < 18446744073709551616 := Nat.lt_of_le_of_lt (Nat.gcd_le_left _ hg) bg
    refine ⟨_, m.ld 1 rfl rfl, _, m.ld 1 rfl rfl, wover_spec hn hh bh fun w6 hf => ?_⟩
    have m : Mem w0 w6 _ := m.fr hf
    refine ⟨m.wr 1 rfl rfl, ?_⟩
    intro w7
    have m : Mem w0 w7 _ := m.set 1 rfl
    clear_value w7
    refine ⟨m.wr 1 rfl rfl, ?_⟩
    intro w8
    have m : Mem w0 w8 _ := m.set 1 rfl
    clear_value w8
    intro w9
    have m : Mem w0 w9 _ := m.drew
    clear_value w9
    have i1 : xd / g < 18446744073709551616 := Nat.lt_of_le_of_lt (Nat.div_le_self _ _) bxd
    have i2 : yd / Nat.gcd g (n % g) < 18446744073709551616 := Nat.lt_of_le_of_lt (Nat.div_le_self _ _) byd
    have r : ∀ a b : Nat, a / b < 18446744073709551616 → inR .u64 (Int.tdiv (a : Int) (b : Int)) := fun a b h => by
      rw [tdivN]
      exact inRu (Int.natCast_nonneg _) (by omega)
    refine ⟨fun u => Rs u _, m.sub 0 rfl, _, fun _ h => h.ld 1 rfl rfl, _, fun _ h => h.ld 1 rfl rfl, _, fun _ h => h.ld 6 rfl rfl, by omega, r _ _ i1, _, fun _ h => h.ld 5 rfl rfl, by omega, r _ _ i2, ?_⟩
    simp -zeta only [tdivN]
    refine product_spec i1 i2 fun w10 hf => ?_
    have m : Mem w0 w10 _ := m.fr hf
    refine ⟨m.sub 0 rfl, rat_spec fun w11 hf => ?_⟩
    have m : Mem w0 w11 _ := m.fr hf
    exact ⟨m.sub 0 rfl, put2b m 4 rfl hK⟩
end
end Go.Proofs.YtfclokkfnkieoaaDoor
