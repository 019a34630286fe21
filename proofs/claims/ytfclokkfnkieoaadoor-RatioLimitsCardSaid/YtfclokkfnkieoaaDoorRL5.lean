/- The law RatioLimits: its contract. Conditions: none. -/
import Derived.Test.YtfclokkfnkieoaaDoorRQ1
import Derived.Test.YtfclokkfnkieoaaDoorRG3
namespace Go.Proofs.YtfclokkfnkieoaaDoor
open Go Pw

theorem five {k : Int} (h0 : 0 ≤ k) (h1 : k ≤ 4) : k = 0 ∨ k = 1 ∨ k = 2 ∨ k = 3 ∨ k = 4 := by omega

theorem limA {k : Int} (h0 : 0 ≤ k) (h1 : k ≤ 4) : (addQ (9223372036854775807 - k) 1 2 1).ok = decide (k ≥ 2) ∧ (k ≥ 2 → (addQ (9223372036854775807 - k) 1 2 1).n = 9223372036854775807 - k + 2 ∧ (addQ (9223372036854775807 - k) 1 2 1).d = 1) := by
  unfold addQ
  rw [if_pos ⟨rI _, rI _⟩]
  rcases five h0 h1 with rfl | rfl | rfl | rfl | rfl
  all_goals exact ⟨by kernel_rfl, fun h => by first | exact absurd h (by decide) | exact ⟨by kernel_rfl, by kernel_rfl⟩⟩
theorem limB {k : Int} (h0 : 0 ≤ k) (h1 : k ≤ 4) : (subQ (-9223372036854775808 + k) 1 2 1).ok = decide (k ≥ 2) ∧ (k ≥ 2 → (subQ (-9223372036854775808 + k) 1 2 1).n = -9223372036854775808 + k - 2 ∧ (subQ (-9223372036854775808 + k) 1 2 1).d = 1) := by
  unfold subQ
  rw [if_pos ⟨rI _, rI _⟩]
  rcases five h0 h1 with rfl | rfl | rfl | rfl | rfl
  all_goals exact ⟨by kernel_rfl, fun h => by first | exact absurd h (by decide) | exact ⟨by kernel_rfl, by kernel_rfl⟩⟩
theorem limC {k : Int} (h0 : 0 ≤ k) (h1 : k ≤ 4) : (mulQ (-9223372036854775808 + k) 1 (-1) 1).ok = decide (k > 0) ∧ (k > 0 → (mulQ (-9223372036854775808 + k) 1 (-1) 1).n = 9223372036854775807 - k + 1 ∧ (mulQ (-9223372036854775808 + k) 1 (-1) 1).d = 1) := by
  unfold mulQ
  rw [if_pos ⟨rI _, rI _⟩]
  rcases five h0 h1 with rfl | rfl | rfl | rfl | rfl
  all_goals exact ⟨by kernel_rfl, fun h => by first | exact absurd h (by decide) | exact ⟨by kernel_rfl, by kernel_rfl⟩⟩
theorem limD {k : Int} (h0 : 0 ≤ k) (h1 : k ≤ 4) : (quoQ (-1) 1 (-9223372036854775808 + k) 1).ok = decide (k > 0) ∧ (k > 0 → (quoQ (-1) 1 (-9223372036854775808 + k) 1).n = 1 ∧ (quoQ (-1) 1 (-9223372036854775808 + k) 1).d = 9223372036854775807 - k + 1) := by
  unfold quoQ
  rw [if_pos ⟨rI _, rI _⟩, if_neg (by omega)]
  rcases five h0 h1 with rfl | rfl | rfl | rfl | rfl
  all_goals exact ⟨by kernel_rfl, fun h => by first | exact absurd h (by decide) | exact ⟨by kernel_rfl, by kernel_rfl⟩⟩

theorem r1 {d : Int} (h : 0 < d) : rightP 1 d := ⟨h, by simp⟩
theorem limF {den : Int} (h0 : 2 ≤ den) (h1 : den ≤ 1001) : mulQ 1 9223372036854775807 1 den = zr := by
  rw [mulQ_val (r1 (by decide)) (r1 (by omega))]
  have e : val 1 9223372036854775807 * val 1 den = val 1 (9223372036854775807 * den) := by
    rw [val_div (by decide), val_div (by omega), val_div (by omega), Rat.divInt_mul_divInt, Int.one_mul]
  rw [e, fitQ_right_eq (r1 (by omega)), if_neg (by omega)]
theorem limG : mulQ 1 9223372036854775807 9223372036854775807 1 = ⟨1, 1, true⟩ := by
  rw [mulQ_val (r1 (by decide)) (rI _)]
  kernel_rfl

section
variable {w w0 : World}

theorem Limits_k1 {den : Int} {bg bf : Nat} {l : List (Nat × List Value)} {K : Bool → World → Prop} (hd0 : 2 ≤ den) (hd1 : den ≤ 1001)
    (m : Mem w0 w ((bg, [.int .i64 (mulQ 1 9223372036854775807 9223372036854775807 1).n, .int .i64 (mulQ 1 9223372036854775807 9223372036854775807 1).d]) :: (bf, [.int .i64 (mulQ 1 9223372036854775807 1 den).n, .int .i64 (mulQ 1 9223372036854775807 1 den).d]) :: l)) (hK : ∀ w', Fr F0 w0 w' → K true w') : probitylaw01_RatioLimits_k1 true ⟨bf, 0, none⟩ (mulQ 1 9223372036854775807 1 den).ok ⟨bg, 0, none⟩ (mulQ 1 9223372036854775807 9223372036854775807 1).ok K w := by
  refine ⟨?_⟩
  unfold probitylaw01_RatioLimits_k1d
  rw [cnd_true]
  refine ⟨_, m.ld 1 rfl rfl, ?_⟩
  refine ⟨_, m.ld 1 rfl rfl, ?_⟩
  refine none_spec fun w77 hf => ?_; have m := m.fr hf
  rw [show noneB _ _ _ = true from by rw [limF hd0 hd1]; rfl, cnd_true]
  refine ⟨_, m.ld 0 rfl rfl, ?_⟩
  refine ⟨_, m.ld 0 rfl rfl, ?_⟩
  refine is_spec fun w81 hf => ?_; have m := m.fr hf
  rw [limG]; exact hK _ m.1

theorem Limits_k0 {k den : Int} {bg bf be bc : Nat} {l : List (Nat × List Value)} {K : Bool → World → Prop} (hk0 : 0 ≤ k) (hk1 : k ≤ 4) (hd0 : 2 ≤ den) (hd1 : den ≤ 1001)
    (m : Mem w0 w ((bg, [.int .i64 (mulQ 1 9223372036854775807 9223372036854775807 1).n, .int .i64 (mulQ 1 9223372036854775807 9223372036854775807 1).d]) :: (bf, [.int .i64 (mulQ 1 9223372036854775807 1 den).n, .int .i64 (mulQ 1 9223372036854775807 1 den).d]) :: (be, [.int .i64 (quoQ (-1) 1 (-9223372036854775808 + k) 1).n, .int .i64 (quoQ (-1) 1 (-9223372036854775808 + k) 1).d]) :: (bc, [.int .i64 (mulQ (-9223372036854775808 + k) 1 (-1) 1).n, .int .i64 (mulQ (-9223372036854775808 + k) 1 (-1) 1).d]) :: l)) (hK : ∀ w', Fr F0 w0 w' → K true w') :
    probitylaw01_RatioLimits_k0 true k ⟨bc, 0, none⟩ (mulQ (-9223372036854775808 + k) 1 (-1) 1).ok ⟨be, 0, none⟩ (quoQ (-1) 1 (-9223372036854775808 + k) 1).ok ⟨bf, 0, none⟩ (mulQ 1 9223372036854775807 1 den).ok ⟨bg, 0, none⟩ (mulQ 1 9223372036854775807 9223372036854775807 1).ok K w := by
  refine ⟨?_⟩
  unfold probitylaw01_RatioLimits_k0d
  intro w67; have m : Mem w0 w67 _ := m.drew; clear_value w67
  refine ⟨fun u => Rs u _, m.sub 0 rfl, ?_⟩
  refine cnd_iff.2 ⟨fun hc1 => ?_, fun hc1 => ?_⟩
  · first | exact absurd hc1 (by rw [(limC hk0 hk1).1]; simp) | exact absurd hc1 (by rw [(limD hk0 hk1).1]; simp)
  · refine cnd_iff.2 ⟨fun hc2 => ?_, fun hc2 => ?_⟩
    · first | exact absurd hc2 (by rw [(limC hk0 hk1).1]; simp) | exact absurd hc2 (by rw [(limD hk0 hk1).1]; simp)
    · refine cnd_prop.2 ⟨fun hc3 => ?_, fun hc3 => ?_⟩
      · refine ⟨_, fun _ h => h.ld 3 rfl rfl, ?_⟩
        refine ⟨_, fun _ h => h.ld 3 rfl rfl, ?_⟩
        refine ⟨inR64 (by omega) (by omega), ?_⟩
        refine ⟨inR64 (by omega) (by omega), ?_⟩
        refine Of_spec fun w71 hf => ?_; have m := m.fr hf
        refine ⟨m.sub 0 rfl, ?_⟩
        refine cnd_iff.2 ⟨fun hc4 => ?_, fun hc4 => ?_⟩
        · first | exact absurd hc4 (by rw [((limC hk0 hk1).2 hc3).1, ((limC hk0 hk1).2 hc3).2]; simp) | exact absurd hc4 (by rw [((limD hk0 hk1).2 hc3).1, ((limD hk0 hk1).2 hc3).2]; simp)
        · refine ⟨_, fun _ h => h.ld 2 rfl rfl, ?_⟩
          refine ⟨_, fun _ h => h.ld 2 rfl rfl, ?_⟩
          refine ⟨inR64 (by omega) (by omega), ?_⟩
          refine ⟨inR64 (by omega) (by omega), ?_⟩
          refine cnd_iff.2 ⟨fun hc5 => ?_, fun hc5 => ?_⟩
          · first | exact absurd hc5 (by rw [((limC hk0 hk1).2 hc3).1, ((limC hk0 hk1).2 hc3).2]; simp) | exact absurd hc5 (by rw [((limD hk0 hk1).2 hc3).1, ((limD hk0 hk1).2 hc3).2]; simp)
          · exact Limits_k1 hd0 hd1 m hK
      · exact Limits_k1 hd0 hd1 m hK

theorem Limits_law {n d : Int} {K : Bool → World → Prop} (g : Gl w) (hn : 0 ≤ n ∧ n < 256) (hd : 0 ≤ d ∧ d < 65536) (hK : ∀ w', Fr F0 w w' → K true w') : probitylaw01_RatioLimits_sh n d K w := by
  have t1 := tmod_bound n (m := 5) (by decide)
  have t2 := Int.tmod_nonneg (a := n) 5 hn.1
  have t3 := tmod_bound d (m := 1000) (by decide)
  have t4 := Int.tmod_nonneg (a := d) 1000 hd.1
  refine ⟨?_⟩
  unfold probitylaw01_RatioLimits_sd
  have m : Mem w w [] := Mem.nil
  refine sanity_spec (g.fr m.1) fun w1 hf => ?_; have m := m.fr hf
  generalize Int.tmod n 5 = k at *
  generalize hde : Int.tmod d 1000 = e at *
  have hk0 : 0 ≤ k := t2
  have hk1 : k ≤ 4 := by omega
  have hd0 : 2 ≤ e + 2 := by omega
  have hd1 : e + 2 ≤ 1001 := by omega
  have hIm : I64 (9223372036854775807 - k) := ⟨by omega, by omega⟩
  have hIl : I64 (-9223372036854775808 + k) := ⟨by omega, by omega⟩
  have hId : I64 (e + 2) := ⟨by omega, by omega⟩
  refine ⟨by decide, ?_⟩
  refine ⟨inR64 (by omega) (by omega), ?_⟩
  refine ⟨by decide, ?_⟩
  refine ⟨inR64 (by omega) (by omega), ?_⟩
  refine ⟨inR64 (by omega) (by omega), ?_⟩
  refine ⟨inR64 (by omega) (by omega), ?_⟩
  refine Of_spec fun w3 hf => ?_; have m := m.fr hf
  refine Of_spec fun w5 hf => ?_; have m := m.fr hf
  refine Add_s (by first | assumption | exact hIm | exact hIl | exact hId | exact i64 rfl | exact (addQ_I64 _ _ _ _).1 | exact (addQ_I64 _ _ _ _).2 | exact (mulQ_I64 _ _ _ _).1 | exact (mulQ_I64 _ _ _ _).2 | exact (subQ_I64 _ _ _ _).1 | exact (subQ_I64 _ _ _ _).2) (by first | assumption | exact hIm | exact hIl | exact hId | exact i64 rfl | exact (addQ_I64 _ _ _ _).1 | exact (addQ_I64 _ _ _ _).2 | exact (mulQ_I64 _ _ _ _).1 | exact (mulQ_I64 _ _ _ _).2 | exact (subQ_I64 _ _ _ _).1 | exact (subQ_I64 _ _ _ _).2) (by first | assumption | exact hIm | exact hIl | exact hId | exact i64 rfl | exact (addQ_I64 _ _ _ _).1 | exact (addQ_I64 _ _ _ _).2 | exact (mulQ_I64 _ _ _ _).1 | exact (mulQ_I64 _ _ _ _).2 | exact (subQ_I64 _ _ _ _).1 | exact (subQ_I64 _ _ _ _).2) (by first | assumption | exact hIm | exact hIl | exact hId | exact i64 rfl | exact (addQ_I64 _ _ _ _).1 | exact (addQ_I64 _ _ _ _).2 | exact (mulQ_I64 _ _ _ _).1 | exact (mulQ_I64 _ _ _ _).2 | exact (subQ_I64 _ _ _ _).1 | exact (subQ_I64 _ _ _ _).2) fun w7 hf => ?_; have m := m.fr hf
  intro w10; have m : Mem w w10 _ := m.allocL; clear_value w10
  refine ⟨m.wr 0 rfl rfl, ?_⟩
  intro w11; have m : Mem w w11 _ := m.set 0 rfl; clear_value w11; simp only [List.set_cons_zero] at m
  refine ⟨m.wr 0 rfl rfl, ?_⟩
  intro w12; have m : Mem w w12 _ := m.set 0 rfl; clear_value w12; simp only [List.set_cons_zero, List.set_cons_succ] at m
  refine ⟨inR64 (by omega) (by omega), ?_⟩
  refine Of_spec fun w13 hf => ?_; have m := m.fr hf
  refine Of_spec fun w15 hf => ?_; have m := m.fr hf
  refine Sub_s (by first | assumption | exact hIm | exact hIl | exact hId | exact i64 rfl | exact (addQ_I64 _ _ _ _).1 | exact (addQ_I64 _ _ _ _).2 | exact (mulQ_I64 _ _ _ _).1 | exact (mulQ_I64 _ _ _ _).2 | exact (subQ_I64 _ _ _ _).1 | exact (subQ_I64 _ _ _ _).2) (by first | assumption | exact hIm | exact hIl | exact hId | exact i64 rfl | exact (addQ_I64 _ _ _ _).1 | exact (addQ_I64 _ _ _ _).2 | exact (mulQ_I64 _ _ _ _).1 | exact (mulQ_I64 _ _ _ _).2 | exact (subQ_I64 _ _ _ _).1 | exact (subQ_I64 _ _ _ _).2) (by first | assumption | exact hIm | exact hIl | exact hId | exact i64 rfl | exact (addQ_I64 _ _ _ _).1 | exact (addQ_I64 _ _ _ _).2 | exact (mulQ_I64 _ _ _ _).1 | exact (mulQ_I64 _ _ _ _).2 | exact (subQ_I64 _ _ _ _).1 | exact (subQ_I64 _ _ _ _).2) (by first | assumption | exact hIm | exact hIl | exact hId | exact i64 rfl | exact (addQ_I64 _ _ _ _).1 | exact (addQ_I64 _ _ _ _).2 | exact (mulQ_I64 _ _ _ _).1 | exact (mulQ_I64 _ _ _ _).2 | exact (subQ_I64 _ _ _ _).1 | exact (subQ_I64 _ _ _ _).2) fun w17 hf => ?_; have m := m.fr hf
  intro w20; have m : Mem w w20 _ := m.allocL; clear_value w20
  refine ⟨m.wr 0 rfl rfl, ?_⟩
  intro w21; have m : Mem w w21 _ := m.set 0 rfl; clear_value w21; simp only [List.set_cons_zero] at m
  refine ⟨m.wr 0 rfl rfl, ?_⟩
  intro w22; have m : Mem w w22 _ := m.set 0 rfl; clear_value w22; simp only [List.set_cons_zero, List.set_cons_succ] at m
  refine ⟨inR64 (by omega) (by omega), ?_⟩
  refine Of_spec fun w23 hf => ?_; have m := m.fr hf
  refine Of_spec fun w25 hf => ?_; have m := m.fr hf
  refine Mul_s (by first | assumption | exact hIm | exact hIl | exact hId | exact i64 rfl | exact (addQ_I64 _ _ _ _).1 | exact (addQ_I64 _ _ _ _).2 | exact (mulQ_I64 _ _ _ _).1 | exact (mulQ_I64 _ _ _ _).2 | exact (subQ_I64 _ _ _ _).1 | exact (subQ_I64 _ _ _ _).2) (by first | assumption | exact hIm | exact hIl | exact hId | exact i64 rfl | exact (addQ_I64 _ _ _ _).1 | exact (addQ_I64 _ _ _ _).2 | exact (mulQ_I64 _ _ _ _).1 | exact (mulQ_I64 _ _ _ _).2 | exact (subQ_I64 _ _ _ _).1 | exact (subQ_I64 _ _ _ _).2) (by first | assumption | exact hIm | exact hIl | exact hId | exact i64 rfl | exact (addQ_I64 _ _ _ _).1 | exact (addQ_I64 _ _ _ _).2 | exact (mulQ_I64 _ _ _ _).1 | exact (mulQ_I64 _ _ _ _).2 | exact (subQ_I64 _ _ _ _).1 | exact (subQ_I64 _ _ _ _).2) (by first | assumption | exact hIm | exact hIl | exact hId | exact i64 rfl | exact (addQ_I64 _ _ _ _).1 | exact (addQ_I64 _ _ _ _).2 | exact (mulQ_I64 _ _ _ _).1 | exact (mulQ_I64 _ _ _ _).2 | exact (subQ_I64 _ _ _ _).1 | exact (subQ_I64 _ _ _ _).2) fun w27 hf => ?_; have m := m.fr hf
  intro w30; have m : Mem w w30 _ := m.allocL; clear_value w30
  refine ⟨m.wr 0 rfl rfl, ?_⟩
  intro w31; have m : Mem w w31 _ := m.set 0 rfl; clear_value w31; simp only [List.set_cons_zero] at m
  refine ⟨m.wr 0 rfl rfl, ?_⟩
  intro w32; have m : Mem w w32 _ := m.set 0 rfl; clear_value w32; simp only [List.set_cons_zero, List.set_cons_succ] at m
  refine Of_spec fun w33 hf => ?_; have m := m.fr hf
  refine ⟨inR64 (by omega) (by omega), ?_⟩
  refine Of_spec fun w35 hf => ?_; have m := m.fr hf
  refine Quo_s (by first | assumption | exact hIm | exact hIl | exact hId | exact i64 rfl | exact (addQ_I64 _ _ _ _).1 | exact (addQ_I64 _ _ _ _).2 | exact (mulQ_I64 _ _ _ _).1 | exact (mulQ_I64 _ _ _ _).2 | exact (subQ_I64 _ _ _ _).1 | exact (subQ_I64 _ _ _ _).2) (by first | assumption | exact hIm | exact hIl | exact hId | exact i64 rfl | exact (addQ_I64 _ _ _ _).1 | exact (addQ_I64 _ _ _ _).2 | exact (mulQ_I64 _ _ _ _).1 | exact (mulQ_I64 _ _ _ _).2 | exact (subQ_I64 _ _ _ _).1 | exact (subQ_I64 _ _ _ _).2) (by first | assumption | exact hIm | exact hIl | exact hId | exact i64 rfl | exact (addQ_I64 _ _ _ _).1 | exact (addQ_I64 _ _ _ _).2 | exact (mulQ_I64 _ _ _ _).1 | exact (mulQ_I64 _ _ _ _).2 | exact (subQ_I64 _ _ _ _).1 | exact (subQ_I64 _ _ _ _).2) (by first | assumption | exact hIm | exact hIl | exact hId | exact i64 rfl | exact (addQ_I64 _ _ _ _).1 | exact (addQ_I64 _ _ _ _).2 | exact (mulQ_I64 _ _ _ _).1 | exact (mulQ_I64 _ _ _ _).2 | exact (subQ_I64 _ _ _ _).1 | exact (subQ_I64 _ _ _ _).2) fun w37 hf => ?_; have m := m.fr hf
  intro w40; have m : Mem w w40 _ := m.allocL; clear_value w40
  refine ⟨m.wr 0 rfl rfl, ?_⟩
  intro w41; have m : Mem w w41 _ := m.set 0 rfl; clear_value w41; simp only [List.set_cons_zero] at m
  refine ⟨m.wr 0 rfl rfl, ?_⟩
  intro w42; have m : Mem w w42 _ := m.set 0 rfl; clear_value w42; simp only [List.set_cons_zero, List.set_cons_succ] at m
  refine Mul_s (by first | assumption | exact hIm | exact hIl | exact hId | exact i64 rfl | exact (addQ_I64 _ _ _ _).1 | exact (addQ_I64 _ _ _ _).2 | exact (mulQ_I64 _ _ _ _).1 | exact (mulQ_I64 _ _ _ _).2 | exact (subQ_I64 _ _ _ _).1 | exact (subQ_I64 _ _ _ _).2) (by first | assumption | exact hIm | exact hIl | exact hId | exact i64 rfl | exact (addQ_I64 _ _ _ _).1 | exact (addQ_I64 _ _ _ _).2 | exact (mulQ_I64 _ _ _ _).1 | exact (mulQ_I64 _ _ _ _).2 | exact (subQ_I64 _ _ _ _).1 | exact (subQ_I64 _ _ _ _).2) (by first | assumption | exact hIm | exact hIl | exact hId | exact i64 rfl | exact (addQ_I64 _ _ _ _).1 | exact (addQ_I64 _ _ _ _).2 | exact (mulQ_I64 _ _ _ _).1 | exact (mulQ_I64 _ _ _ _).2 | exact (subQ_I64 _ _ _ _).1 | exact (subQ_I64 _ _ _ _).2) (by first | assumption | exact hIm | exact hIl | exact hId | exact i64 rfl | exact (addQ_I64 _ _ _ _).1 | exact (addQ_I64 _ _ _ _).2 | exact (mulQ_I64 _ _ _ _).1 | exact (mulQ_I64 _ _ _ _).2 | exact (subQ_I64 _ _ _ _).1 | exact (subQ_I64 _ _ _ _).2) fun w43 hf => ?_; have m := m.fr hf
  intro w46; have m : Mem w w46 _ := m.allocL; clear_value w46
  refine ⟨m.wr 0 rfl rfl, ?_⟩
  intro w47; have m : Mem w w47 _ := m.set 0 rfl; clear_value w47; simp only [List.set_cons_zero] at m
  refine ⟨m.wr 0 rfl rfl, ?_⟩
  intro w48; have m : Mem w w48 _ := m.set 0 rfl; clear_value w48; simp only [List.set_cons_zero, List.set_cons_succ] at m
  refine Of_spec fun w49 hf => ?_; have m := m.fr hf
  refine Mul_s (by first | assumption | exact hIm | exact hIl | exact hId | exact i64 rfl | exact (addQ_I64 _ _ _ _).1 | exact (addQ_I64 _ _ _ _).2 | exact (mulQ_I64 _ _ _ _).1 | exact (mulQ_I64 _ _ _ _).2 | exact (subQ_I64 _ _ _ _).1 | exact (subQ_I64 _ _ _ _).2) (by first | assumption | exact hIm | exact hIl | exact hId | exact i64 rfl | exact (addQ_I64 _ _ _ _).1 | exact (addQ_I64 _ _ _ _).2 | exact (mulQ_I64 _ _ _ _).1 | exact (mulQ_I64 _ _ _ _).2 | exact (subQ_I64 _ _ _ _).1 | exact (subQ_I64 _ _ _ _).2) (by first | assumption | exact hIm | exact hIl | exact hId | exact i64 rfl | exact (addQ_I64 _ _ _ _).1 | exact (addQ_I64 _ _ _ _).2 | exact (mulQ_I64 _ _ _ _).1 | exact (mulQ_I64 _ _ _ _).2 | exact (subQ_I64 _ _ _ _).1 | exact (subQ_I64 _ _ _ _).2) (by first | assumption | exact hIm | exact hIl | exact hId | exact i64 rfl | exact (addQ_I64 _ _ _ _).1 | exact (addQ_I64 _ _ _ _).2 | exact (mulQ_I64 _ _ _ _).1 | exact (mulQ_I64 _ _ _ _).2 | exact (subQ_I64 _ _ _ _).1 | exact (subQ_I64 _ _ _ _).2) fun w51 hf => ?_; have m := m.fr hf
  intro w54; have m : Mem w w54 _ := m.allocL; clear_value w54
  refine ⟨m.wr 0 rfl rfl, ?_⟩
  intro w55; have m : Mem w w55 _ := m.set 0 rfl; clear_value w55; simp only [List.set_cons_zero] at m
  refine ⟨m.wr 0 rfl rfl, ?_⟩
  intro w56; have m : Mem w w56 _ := m.set 0 rfl; clear_value w56; simp only [List.set_cons_zero, List.set_cons_succ] at m
  intro w57; have m : Mem w w57 _ := m.drew; clear_value w57
  refine ⟨fun u => Rs u _, m.sub 0 rfl, ?_⟩
  refine cnd_iff.2 ⟨fun hc1 => ?_, fun hc1 => ?_⟩
  · first | exact absurd hc1 (by rw [(limA hk0 hk1).1]; simp) | exact absurd hc1 (by rw [(limB hk0 hk1).1]; simp)
  · refine cnd_iff.2 ⟨fun hc2 => ?_, fun hc2 => ?_⟩
    · first | exact absurd hc2 (by rw [(limA hk0 hk1).1]; simp) | exact absurd hc2 (by rw [(limB hk0 hk1).1]; simp)
    · refine cnd_prop.2 ⟨fun hc3 => ?_, fun hc3 => ?_⟩
      · refine ⟨_, fun _ h => h.ld 5 rfl rfl, ?_⟩
        refine ⟨_, fun _ h => h.ld 5 rfl rfl, ?_⟩
        refine ⟨inR64 (by omega) (by omega), ?_⟩
        refine ⟨inR64 (by omega) (by omega), ?_⟩
        refine Of_spec fun w61 hf => ?_; have m := m.fr hf
        refine ⟨m.sub 0 rfl, ?_⟩
        refine cnd_iff.2 ⟨fun hc4 => ?_, fun hc4 => ?_⟩
        · exact absurd hc4 (by rw [((limA hk0 hk1).2 hc3).1, ((limA hk0 hk1).2 hc3).2]; simp)
        · refine ⟨_, fun _ h => h.ld 4 rfl rfl, ?_⟩
          refine ⟨_, fun _ h => h.ld 4 rfl rfl, ?_⟩
          refine ⟨inR64 (by omega) (by omega), ?_⟩
          refine ⟨inR64 (by omega) (by omega), ?_⟩
          refine Of_spec fun w65 hf => ?_; have m := m.fr hf
          refine ⟨m.sub 0 rfl, ?_⟩
          refine cnd_iff.2 ⟨fun hc5 => ?_, fun hc5 => ?_⟩
          · exact absurd hc5 (by rw [((limB hk0 hk1).2 hc3).1, ((limB hk0 hk1).2 hc3).2]; simp)
          · exact Limits_k0 hk0 hk1 hd0 hd1 m hK
      · exact Limits_k0 hk0 hk1 hd0 hd1 m hK
end
end Go.Proofs.YtfclokkfnkieoaaDoor