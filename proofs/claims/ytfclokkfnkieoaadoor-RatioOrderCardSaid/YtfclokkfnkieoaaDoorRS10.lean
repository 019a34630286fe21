/- The operations of package ratio: Add, Sub, Mul, Quo. Conditions: none. -/
import Derived.Test.YtfclokkfnkieoaaDoorRS9
namespace Go.Proofs.YtfclokkfnkieoaaDoor
open Go Pw

section
variable {w : World}

theorem right_cop {n d : Int} (h : rightP n d) : Nat.Coprime n.natAbs d.natAbs := h.2

def fv (s : Bool) (n d : Nat) : Value := .agg #[.bool s, .int .u64 n, .int .u64 d]
def rv (r : RR) : Value := .tuple #[.agg #[.int .i64 r.n, .int .i64 r.d], .bool r.ok]

theorem checked_spec {n d n' d' : Int} {f : Value} {r : RR} {K : Int → Int → Bool → World → Prop} (hn : I64 n) (hd : I64 d) (hn' : I64 n') (hd' : I64 d')
    (hf : rightP n d → rightP n' d' → ∀ w1, Fr F0 w w1 → CallV Tryd.prog f [fv (decide (n < 0)) n.natAbs d.natAbs, fv (decide (n' < 0)) n'.natAbs d'.natAbs] w1 fun u w2 => u = rv r ∧ Fr F0 w1 w2)
    (hK : ∀ w', Fr F0 w w' → Kr K (if rightP n d ∧ rightP n' d' then r else zr) w') : ratio_checked_sh n d n' d' f K w := by
  refine ⟨?_⟩
  unfold ratio_checked_sd
  intro w1
  have m : Mem w w1 _ := Mem.nil.alloc
  clear_value w1
  intro w2
  have m : Mem w w2 _ := m.alloc
  clear_value w2
  intro w3
  have m : Mem w w3 _ := m.alloc
  clear_value w3
  refine ⟨_, m.ld 2 rfl rfl, _, m.ld 2 rfl rfl, _, m.ld 1 rfl rfl, _, m.ld 1 rfl rfl, both_spec hn hd hn' hd' fun w4 hf4 => ?_⟩
  have m : Mem w w4 _ := m.fr hf4
  by_cases h : rightP n d ∧ rightP n' d'
  · rw [if_pos h] at hK
    have e : (!(decide (rightP n d) && decide (rightP n' d'))) = false := by simp [h.1, h.2]
    rw [e, cnd_false]
    intro w5
    have m : Mem w w5 _ := m.drew
    clear_value w5
    refine ⟨fun u => Rs u _, m.sub 0 rfl, _, fun _ h => h.ld 2 rfl rfl, _, fun _ h => h.ld 2 rfl rfl, _, fun _ h => h.ld 1 rfl rfl, _, fun _ h => h.ld 1 rfl rfl, ?_⟩
    refine of_spec hn hd fun w6 hf6 => ?_
    have m : Mem w w6 _ := m.fr hf6
    refine ⟨m.sub 0 rfl, of_spec hn' hd' fun w7 hf7 => ?_⟩
    have m : Mem w w7 _ := m.fr hf7
    refine ⟨m.sub 0 rfl, ?_⟩
    refine (hf h.1 h.2 w7 m.1).mono fun u w8 hu => ?_
    obtain ⟨rfl, hf8⟩ := hu
    have m : Mem w w8 _ := m.fr hf8
    exact ⟨_, _, _, rfl, m.sub 0 rfl, put2b m 0 rfl hK⟩
  · rw [if_neg h] at hK
    have e : (!(decide (rightP n d) && decide (rightP n' d'))) = true := by
      simp only [Bool.not_eq_true', Bool.and_eq_false_iff, decide_eq_false_iff_not]
      by_cases h1 : rightP n d
      · exact .inr fun h2 => h ⟨h1, h2⟩
      · exact .inl h1
    rw [e, cnd_true]
    exact zero_spec fun w5 hf5 => put2b (m.fr hf5) 0 rfl hK

theorem I64.abs {n : Int} (h : I64 n) : n.natAbs ≤ 9223372036854775808 := by have := h.1; have := h.2; omega
theorem I64.abs' {n : Int} (h : I64 n) : n.natAbs < 18446744073709551616 := by have := h.1; have := h.2; omega

theorem Add_spec {n d n' d' : Int} {K : Int → Int → Bool → World → Prop} (hn : I64 n) (hd : I64 d) (hn' : I64 n') (hd' : I64 d')
    (hK : ∀ w', Fr F0 w w' → Kr K (addQ n d n' d') w') : ratio_Add_sh n d n' d' K w := by
  refine ⟨?_⟩
  unfold ratio_Add_sd
  intro w1
  have m : Mem w w1 _ := Mem.nil.alloc
  clear_value w1
  intro w2
  have m : Mem w w2 _ := m.alloc
  clear_value w2
  intro w3
  have m : Mem w w3 _ := m.alloc
  clear_value w3
  refine ⟨_, m.ld 2 rfl rfl, _, m.ld 2 rfl rfl, _, m.ld 1 rfl rfl, _, m.ld 1 rfl rfl, ?_⟩
  refine checked_spec (r := fitQ (val n d + val n' d')) hn hd hn' hd' (fun h h' w4 hf4 => callV_of ratio_sum_ok ?_) fun w4 hf4 => put2b (m.fr hf4) 0 rfl hK
  refine sum_spec (right_cop h) (right_cop h') (by have := h.1; omega) (by have := h'.1; omega) hn.abs hd.abs hn'.abs hd'.abs fun w5 hf5 => ?_
  rw [val_eq h.1, val_eq h'.1]
  exact ⟨rfl, hf5⟩

theorem Mul_spec {n d n' d' : Int} {K : Int → Int → Bool → World → Prop} (hn : I64 n) (hd : I64 d) (hn' : I64 n') (hd' : I64 d')
    (hK : ∀ w', Fr F0 w w' → Kr K (mulQ n d n' d') w') : ratio_Mul_sh n d n' d' K w := by
  refine ⟨?_⟩
  unfold ratio_Mul_sd
  intro w1
  have m : Mem w w1 _ := Mem.nil.alloc
  clear_value w1
  intro w2
  have m : Mem w w2 _ := m.alloc
  clear_value w2
  intro w3
  have m : Mem w w3 _ := m.alloc
  clear_value w3
  refine ⟨_, m.ld 2 rfl rfl, _, m.ld 2 rfl rfl, _, m.ld 1 rfl rfl, _, m.ld 1 rfl rfl, ?_⟩
  refine checked_spec (r := fitQ (val n d * val n' d')) hn hd hn' hd' (fun h h' w4 hf4 => callV_of ratio_times_ok ?_) fun w4 hf4 => put2b (m.fr hf4) 0 rfl hK
  refine times_spec (right_cop h) (right_cop h') (by have := h.1; omega) (by have := h'.1; omega) hn.abs' hd.abs' hn'.abs' hd'.abs' fun w5 hf5 => ?_
  rw [val_eq h.1, val_eq h'.1]
  exact ⟨rfl, hf5⟩

theorem Sub1_spec {xs ys : Bool} {xn xd yn yd : Nat} {K : Int → Int → Bool → World → Prop} (hx : Nat.Coprime xn xd) (hy : Nat.Coprime yn yd) (hxd : 0 < xd) (hyd : 0 < yd)
    (bxn : xn ≤ 9223372036854775808) (bxd : xd ≤ 9223372036854775808) (byn : yn ≤ 9223372036854775808) (byd : yd ≤ 9223372036854775808)
    (hK : ∀ w', Fr F0 w w' → Kr K (fitQ (mkRat (sgn xs xn) xd + mkRat (sgn (!ys) yn) yd)) w') : ratio_Sub_1_sh xs xn xd ys yn yd K w := by
  refine ⟨?_⟩
  unfold ratio_Sub_1_sd
  intro w1
  have m : Mem w w1 _ := Mem.nil.alloc
  clear_value w1
  intro w2
  have m : Mem w w2 _ := m.alloc
  clear_value w2
  intro w3
  have m : Mem w w3 _ := m.alloc
  clear_value w3
  refine ⟨_, m.ld 1 rfl rfl, m.wr 1 rfl rfl, ?_⟩
  intro w4
  have m : Mem w w4 _ := m.set 1 rfl
  clear_value w4
  refine ⟨_, m.ld 2 rfl rfl, _, m.ld 2 rfl rfl, _, m.ld 2 rfl rfl, _, m.ld 1 rfl rfl, _, m.ld 1 rfl rfl, _, m.ld 1 rfl rfl, ?_⟩
  exact sum_spec hx hy hxd hyd bxn bxd byn byd fun w5 hf5 => put2b (m.fr hf5) 0 rfl hK

theorem Sub_spec {n d n' d' : Int} {K : Int → Int → Bool → World → Prop} (hn : I64 n) (hd : I64 d) (hn' : I64 n') (hd' : I64 d')
    (hK : ∀ w', Fr F0 w w' → Kr K (subQ n d n' d') w') : ratio_Sub_sh n d n' d' K w := by
  refine ⟨?_⟩
  unfold ratio_Sub_sd
  intro w1
  have m : Mem w w1 _ := Mem.nil.alloc
  clear_value w1
  intro w2
  have m : Mem w w2 _ := m.alloc
  clear_value w2
  intro w3
  have m : Mem w w3 _ := m.alloc
  clear_value w3
  refine ⟨_, m.ld 2 rfl rfl, _, m.ld 2 rfl rfl, _, m.ld 1 rfl rfl, _, m.ld 1 rfl rfl, ?_⟩
  refine checked_spec (r := fitQ (val n d - val n' d')) hn hd hn' hd' (fun h h' w4 hf4 => callV_of ratio_Sub_1_ok ?_) fun w4 hf4 => put2b (m.fr hf4) 0 rfl hK
  refine Sub1_spec (right_cop h) (right_cop h') (by have := h.1; omega) (by have := h'.1; omega) hn.abs hd.abs hn'.abs hd'.abs fun w5 hf5 => ?_
  rw [val_eq h.1, val_neg h'.1, ← Rat.sub_eq_add_neg]
  exact ⟨rfl, hf5⟩

theorem Quo1_spec {xs ys : Bool} {xn xd yn yd : Nat} {b : Nat} {n' y : Int} {K : Int → Int → Bool → World → Prop} (hb : Row w b [.int .i64 n', .int .i64 y]) (hyn : n' = 0 ↔ yn = 0) (hx : Nat.Coprime xn xd) (hy : Nat.Coprime yn yd) (hxd : 0 < xd)
    (bxn : xn < 18446744073709551616) (bxd : xd < 18446744073709551616) (byn : yn < 18446744073709551616) (byd : yd < 18446744073709551616)
    (hK : ∀ w', Fr F0 w w' → Kr K (if n' = 0 then zr else fitQ (mkRat (sgn xs xn) xd * mkRat (sgn ys yd) yn)) w') : ratio_Quo_1_sh xs xn xd ys yn yd ⟨b, 0, none⟩ K w := by
  refine ⟨?_⟩
  unfold ratio_Quo_1_sd
  intro w1
  have m : Mem w w1 _ := Mem.nil.alloc
  clear_value w1
  intro w2
  have m : Mem w w2 _ := m.alloc
  clear_value w2
  intro w3
  have m : Mem w w3 _ := m.alloc
  clear_value w3
  have hb3 : Row w3 b _ := m.1.row hb fun h => h
  refine ⟨_, hb3.at rfl, ?_⟩
  rw [cnd_beq]
  constructor
  · intro h0
    rw [if_pos h0] at hK
    exact zero_spec fun w4 hf4 => put2b (m.fr hf4) 0 rfl hK
  · intro h0
    rw [if_neg h0] at hK
    refine ⟨_, m.ld 2 rfl rfl, _, m.ld 2 rfl rfl, _, m.ld 2 rfl rfl, _, m.ld 1 rfl rfl, _, m.ld 1 rfl rfl, _, m.ld 1 rfl rfl, ?_⟩
    refine times_spec hx hy.symm hxd (by rcases Nat.eq_zero_or_pos yn with h | h; exact absurd (hyn.2 h) h0; exact h) bxn bxd byd byn fun w5 hf5 => put2b (m.fr hf5) 0 rfl hK

theorem Quo_spec {n d n' d' : Int} {K : Int → Int → Bool → World → Prop} (hn : I64 n) (hd : I64 d) (hn' : I64 n') (hd' : I64 d')
    (hK : ∀ w', Fr F0 w w' → Kr K (quoQ n d n' d') w') : ratio_Quo_sh n d n' d' K w := by
  refine ⟨?_⟩
  unfold ratio_Quo_sd
  intro w1
  have m : Mem w w1 _ := Mem.nil.alloc
  clear_value w1
  intro w2
  have m : Mem w w2 _ := m.alloc
  clear_value w2
  intro w3
  have m : Mem w w3 _ := m.alloc
  clear_value w3
  have hrow : Row w3 w1.heap.size [.int .i64 n', .int .i64 d'] := m.2.1 (w1.heap.size, [.int .i64 n', .int .i64 d']) (by simp)
  refine ⟨_, m.ld 2 rfl rfl, _, m.ld 2 rfl rfl, _, m.ld 1 rfl rfl, _, m.ld 1 rfl rfl, ?_⟩
  refine checked_spec (r := if n' = 0 then zr else fitQ (val n d / val n' d')) hn hd hn' hd' (fun h h' w4 hf4 => callV_of ratio_Quo_1_ok ?_) fun w4 hf4 => put2b (m.fr hf4) 0 rfl hK
  refine Quo1_spec (hf4.row hrow fun h => h) (by omega) (right_cop h) (right_cop h') (by have := h.1; omega) hn.abs' hd.abs' hn'.abs' hd'.abs' fun w5 hf5 => ?_
  rw [val_eq h.1, val_inv h'.1, ← Rat.div_def]
  exact ⟨rfl, hf5⟩
end
end Go.Proofs.YtfclokkfnkieoaaDoor
