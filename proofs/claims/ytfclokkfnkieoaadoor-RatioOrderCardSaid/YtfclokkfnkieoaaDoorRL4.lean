/- The law RatioOrder: its contract. Conditions: none. -/
import Derived.Test.YtfclokkfnkieoaaDoorRQ1
import Derived.Test.YtfclokkfnkieoaaDoorRG3
namespace Go.Proofs.YtfclokkfnkieoaaDoor
open Go Pw

theorem cmpR_range (x y : Rat) : -1 ≤ cmpR x y ∧ cmpR x y ≤ 1 := by
  unfold cmpR
  split
  · decide
  · split <;> decide
theorem cmpQ_range (n d n' d' : Int) : -1 ≤ cmpQ n d n' d' ∧ cmpQ n d n' d' ≤ 1 := by
  unfold cmpQ
  split
  · exact cmpI_range _ _
  · decide
theorem cmp_neg {n1 d1 n2 d2 : Int} (h1 : rightP n1 d1) (h2 : rightP n2 d2) : cmpQ n2 d2 n1 d1 = -cmpQ n1 d1 n2 d2 := by
  rw [cmpQ_val h1 h2, cmpQ_val h2 h1]
  unfold cmpR
  by_cases h : val n1 d1 < val n2 d2
  · have h' : ¬ val n2 d2 < val n1 d1 := by grind
    simp [h, h']
  · by_cases h' : val n2 d2 < val n1 d1
    · simp [h, h']
    · simp [h, h']
theorem cmp_self {n1 d1 : Int} (h1 : rightP n1 d1) : cmpQ n1 d1 n1 d1 = 0 := by
  rw [cmpQ_val h1 h1]
  unfold cmpR
  have h : ¬ val n1 d1 < val n1 d1 := by grind
  simp [h]
theorem cmp_zero {n1 d1 n2 d2 : Int} (h1 : rightP n1 d1) (h2 : rightP n2 d2) : (cmpQ n1 d1 n2 d2 == 0) = (n1 == n2 && (d1 == d2 && true)) := by
  rw [Bool.eq_iff_iff]
  simp only [beq_iff_eq, Bool.and_eq_true, and_true]
  rw [cmpQ_val h1 h2]
  unfold cmpR
  constructor
  · intro h
    by_cases h3 : val n1 d1 < val n2 d2
    · simp [h3] at h
    · by_cases h4 : val n2 d2 < val n1 d1
      · simp [h3, h4] at h
      · exact val_inj h1 h2 (by grind)
  · rintro ⟨rfl, rfl⟩
    have h : ¬ val n1 d1 < val n1 d1 := by grind
    simp [h]
theorem cmp_trans {n1 d1 n2 d2 n3 d3 : Int} (h1 : rightP n1 d1) (h2 : rightP n2 d2) (h3 : rightP n3 d3) (a : cmpQ n1 d1 n2 d2 ≤ 0) (b : cmpQ n2 d2 n3 d3 ≤ 0) : cmpQ n1 d1 n3 d3 ≤ 0 := by
  rw [cmpQ_val h1 h2] at a
  rw [cmpQ_val h2 h3] at b
  rw [cmpQ_val h1 h3]
  have key : ∀ x y : Rat, cmpR x y ≤ 0 ↔ x ≤ y := by
    intro x y
    unfold cmpR
    by_cases h : x < y
    · have : x ≤ y := by grind
      simp [h, this]
    · by_cases h' : y < x
      · have : ¬ x ≤ y := by grind
        simp [h, h', this]
      · have : x ≤ y := by grind
        simp [h, h', this]
  rw [key] at a b ⊢
  exact Rat.le_trans a b
theorem cmpR_sign (x y : Rat) : (0 < cmpR x y ↔ y < x) ∧ (cmpR x y < 0 ↔ x < y) := by
  unfold cmpR
  by_cases h : x < y
  · have : ¬ y < x := by grind
    simp [h, this]
  · by_cases h' : y < x
    · simp [h, h']
    · simp [h, h']
theorem sub_sign_gt {n1 d1 n2 d2 : Int} (h1 : rightP n1 d1) (h2 : rightP n2 d2) (hok : (subQ n1 d1 n2 d2).ok = true) : decide ((subQ n1 d1 n2 d2).n > 0) = decide (cmpQ n1 d1 n2 d2 > 0) := by
  apply decide_eq_decide.2
  have h := val_num_sign (subQ_right n1 d1 n2 d2)
  rw [subQ_fit h1 h2 hok] at h
  rw [cmpQ_val h1 h2]
  have := (cmpR_sign (val n1 d1) (val n2 d2)).1
  show 0 < _ ↔ 0 < _
  rw [h.1, this]
  constructor <;> (intro h; grind)
theorem sub_sign_lt {n1 d1 n2 d2 : Int} (h1 : rightP n1 d1) (h2 : rightP n2 d2) (hok : (subQ n1 d1 n2 d2).ok = true) : decide ((subQ n1 d1 n2 d2).n < 0) = decide (cmpQ n1 d1 n2 d2 < 0) := by
  apply decide_eq_decide.2
  have h := val_num_sign (subQ_right n1 d1 n2 d2)
  rw [subQ_fit h1 h2 hok] at h
  rw [cmpQ_val h1 h2]
  have := (cmpR_sign (val n1 d1) (val n2 d2)).2
  rw [h.2, this]
  constructor <;> (intro h; grind)
theorem cmp_add {n1 d1 n2 d2 n3 d3 : Int} (h1 : rightP n1 d1) (h2 : rightP n2 d2) (h3 : rightP n3 d3) (a : (addQ n1 d1 n3 d3).ok = true) (b : (addQ n2 d2 n3 d3).ok = true) :
    cmpQ (addQ n1 d1 n3 d3).n (addQ n1 d1 n3 d3).d (addQ n2 d2 n3 d3).n (addQ n2 d2 n3 d3).d = cmpQ n1 d1 n2 d2 := by
  rw [cmpQ_val (addQ_right _ _ _ _) (addQ_right _ _ _ _), cmpQ_val h1 h2, addQ_fit h1 h3 a, addQ_fit h2 h3 b]
  unfold cmpR
  have e1 : val n1 d1 + val n3 d3 < val n2 d2 + val n3 d3 ↔ val n1 d1 < val n2 d2 := by constructor <;> (intro h; grind)
  have e2 : val n2 d2 + val n3 d3 < val n1 d1 + val n3 d3 ↔ val n2 d2 < val n1 d1 := by constructor <;> (intro h; grind)
  simp only [e1, e2]

section
variable {w w0 : World}

theorem Order_k1 {n1 d1 n2 d2 n3 d3 : Int} {b0 b5 b6 b7 b8 b9 b10 : Nat} {c0 c8 c9 c10 : List Value} {K : Bool → World → Prop} (hr1 : rightP n1 d1) (hr2 : rightP n2 d2) (hr3 : rightP n3 d3) (hn1 : I64 n1) (hd1 : I64 d1) (hn2 : I64 n2) (hd2 : I64 d2) (hn3 : I64 n3) (hd3 : I64 d3)
    (m : Mem w0 w [(b0, c0), (b5, [.int .i64 n3, .int .i64 d3]), (b6, [.int .i64 n2, .int .i64 d2]), (b7, [.int .i64 n1, .int .i64 d1]), (b8, c8), (b9, c9), (b10, c10)])
    (hK : ∀ w', Fr F0 w0 w' → K true w') : probitylaw01_RatioOrder_k1 true ⟨b7, 0, none⟩ ⟨b6, 0, none⟩ ⟨b5, 0, none⟩ (cmpQ n1 d1 n2 d2) K w := by
  refine ⟨?_⟩
  unfold probitylaw01_RatioOrder_k1d
  refine ⟨_, m.ld 3 rfl rfl, ?_⟩
  refine ⟨_, m.ld 3 rfl rfl, ?_⟩
  refine ⟨_, m.ld 1 rfl rfl, ?_⟩
  refine ⟨_, m.ld 1 rfl rfl, ?_⟩
  refine Add_s (by first | assumption | exact (addQ_I64 _ _ _ _).1 | exact (addQ_I64 _ _ _ _).2 | exact (mulQ_I64 _ _ _ _).1 | exact (mulQ_I64 _ _ _ _).2 | exact (subQ_I64 _ _ _ _).1 | exact (subQ_I64 _ _ _ _).2) (by first | assumption | exact (addQ_I64 _ _ _ _).1 | exact (addQ_I64 _ _ _ _).2 | exact (mulQ_I64 _ _ _ _).1 | exact (mulQ_I64 _ _ _ _).2 | exact (subQ_I64 _ _ _ _).1 | exact (subQ_I64 _ _ _ _).2) (by first | assumption | exact (addQ_I64 _ _ _ _).1 | exact (addQ_I64 _ _ _ _).2 | exact (mulQ_I64 _ _ _ _).1 | exact (mulQ_I64 _ _ _ _).2 | exact (subQ_I64 _ _ _ _).1 | exact (subQ_I64 _ _ _ _).2) (by first | assumption | exact (addQ_I64 _ _ _ _).1 | exact (addQ_I64 _ _ _ _).2 | exact (mulQ_I64 _ _ _ _).1 | exact (mulQ_I64 _ _ _ _).2 | exact (subQ_I64 _ _ _ _).1 | exact (subQ_I64 _ _ _ _).2) fun w81 hf => ?_; have m := m.fr hf
  intro w84; have m : Mem w0 w84 _ := m.allocL; clear_value w84
  refine ⟨m.wr 0 rfl rfl, ?_⟩
  intro w85; have m : Mem w0 w85 _ := m.set 0 rfl; clear_value w85; simp only [List.set_cons_zero] at m
  refine ⟨m.wr 0 rfl rfl, ?_⟩
  intro w86; have m : Mem w0 w86 _ := m.set 0 rfl; clear_value w86; simp only [List.set_cons_zero, List.set_cons_succ] at m
  refine ⟨_, m.ld 3 rfl rfl, ?_⟩
  refine ⟨_, m.ld 3 rfl rfl, ?_⟩
  refine ⟨_, m.ld 2 rfl rfl, ?_⟩
  refine ⟨_, m.ld 2 rfl rfl, ?_⟩
  refine Add_s (by first | assumption | exact (addQ_I64 _ _ _ _).1 | exact (addQ_I64 _ _ _ _).2 | exact (mulQ_I64 _ _ _ _).1 | exact (mulQ_I64 _ _ _ _).2 | exact (subQ_I64 _ _ _ _).1 | exact (subQ_I64 _ _ _ _).2) (by first | assumption | exact (addQ_I64 _ _ _ _).1 | exact (addQ_I64 _ _ _ _).2 | exact (mulQ_I64 _ _ _ _).1 | exact (mulQ_I64 _ _ _ _).2 | exact (subQ_I64 _ _ _ _).1 | exact (subQ_I64 _ _ _ _).2) (by first | assumption | exact (addQ_I64 _ _ _ _).1 | exact (addQ_I64 _ _ _ _).2 | exact (mulQ_I64 _ _ _ _).1 | exact (mulQ_I64 _ _ _ _).2 | exact (subQ_I64 _ _ _ _).1 | exact (subQ_I64 _ _ _ _).2) (by first | assumption | exact (addQ_I64 _ _ _ _).1 | exact (addQ_I64 _ _ _ _).2 | exact (mulQ_I64 _ _ _ _).1 | exact (mulQ_I64 _ _ _ _).2 | exact (subQ_I64 _ _ _ _).1 | exact (subQ_I64 _ _ _ _).2) fun w91 hf => ?_; have m := m.fr hf
  intro w94; have m : Mem w0 w94 _ := m.allocL; clear_value w94
  refine ⟨m.wr 0 rfl rfl, ?_⟩
  intro w95; have m : Mem w0 w95 _ := m.set 0 rfl; clear_value w95; simp only [List.set_cons_zero] at m
  refine ⟨m.wr 0 rfl rfl, ?_⟩
  intro w96; have m : Mem w0 w96 _ := m.set 0 rfl; clear_value w96; simp only [List.set_cons_zero, List.set_cons_succ] at m
  rw [cnd_true]
  refine cnd_iff.2 ⟨fun hc2 => ?_, fun hc2 => ?_⟩
  · exact hK _ m.1
  · refine cnd_iff.2 ⟨fun hc3 => ?_, fun hc3 => ?_⟩
    · exact hK _ m.1
    · refine ⟨_, m.ld 1 rfl rfl, ?_⟩
      refine ⟨_, m.ld 1 rfl rfl, ?_⟩
      refine ⟨_, m.ld 0 rfl rfl, ?_⟩
      refine ⟨_, m.ld 0 rfl rfl, ?_⟩
      refine Cmp_spec (by first | assumption | exact (addQ_I64 _ _ _ _).1 | exact (addQ_I64 _ _ _ _).2 | exact (mulQ_I64 _ _ _ _).1 | exact (mulQ_I64 _ _ _ _).2 | exact (subQ_I64 _ _ _ _).1 | exact (subQ_I64 _ _ _ _).2) (by first | assumption | exact (addQ_I64 _ _ _ _).1 | exact (addQ_I64 _ _ _ _).2 | exact (mulQ_I64 _ _ _ _).1 | exact (mulQ_I64 _ _ _ _).2 | exact (subQ_I64 _ _ _ _).1 | exact (subQ_I64 _ _ _ _).2) (by first | assumption | exact (addQ_I64 _ _ _ _).1 | exact (addQ_I64 _ _ _ _).2 | exact (mulQ_I64 _ _ _ _).1 | exact (mulQ_I64 _ _ _ _).2 | exact (subQ_I64 _ _ _ _).1 | exact (subQ_I64 _ _ _ _).2) (by first | assumption | exact (addQ_I64 _ _ _ _).1 | exact (addQ_I64 _ _ _ _).2 | exact (mulQ_I64 _ _ _ _).1 | exact (mulQ_I64 _ _ _ _).2 | exact (subQ_I64 _ _ _ _).1 | exact (subQ_I64 _ _ _ _).2) fun w101 hf => ?_; have m := m.fr hf
      rw [cmp_add hr1 hr2 hr3 (by simpa using hc2) (by simpa using hc3), beq_self_eq_true]; exact hK _ m.1

theorem Order_k0 {n1 d1 n2 d2 n3 d3 : Int} {b5 b6 b7 b8 b9 b10 : Nat} {c8 c9 c10 : List Value} {K : Bool → World → Prop} (hr1 : rightP n1 d1) (hr2 : rightP n2 d2) (hr3 : rightP n3 d3) (hn1 : I64 n1) (hd1 : I64 d1) (hn2 : I64 n2) (hd2 : I64 d2) (hn3 : I64 n3) (hd3 : I64 d3)
    (m : Mem w0 w [(b5, [.int .i64 n3, .int .i64 d3]), (b6, [.int .i64 n2, .int .i64 d2]), (b7, [.int .i64 n1, .int .i64 d1]), (b8, c8), (b9, c9), (b10, c10)])
    (hK : ∀ w', Fr F0 w0 w' → K true w') : probitylaw01_RatioOrder_k0 true ⟨b7, 0, none⟩ ⟨b6, 0, none⟩ ⟨b5, 0, none⟩ (cmpQ n1 d1 n2 d2) K w := by
  refine ⟨?_⟩
  unfold probitylaw01_RatioOrder_k0d
  refine ⟨_, m.ld 2 rfl rfl, ?_⟩
  refine ⟨_, m.ld 2 rfl rfl, ?_⟩
  refine ⟨_, m.ld 1 rfl rfl, ?_⟩
  refine ⟨_, m.ld 1 rfl rfl, ?_⟩
  refine Sub_s (by first | assumption | exact (addQ_I64 _ _ _ _).1 | exact (addQ_I64 _ _ _ _).2 | exact (mulQ_I64 _ _ _ _).1 | exact (mulQ_I64 _ _ _ _).2 | exact (subQ_I64 _ _ _ _).1 | exact (subQ_I64 _ _ _ _).2) (by first | assumption | exact (addQ_I64 _ _ _ _).1 | exact (addQ_I64 _ _ _ _).2 | exact (mulQ_I64 _ _ _ _).1 | exact (mulQ_I64 _ _ _ _).2 | exact (subQ_I64 _ _ _ _).1 | exact (subQ_I64 _ _ _ _).2) (by first | assumption | exact (addQ_I64 _ _ _ _).1 | exact (addQ_I64 _ _ _ _).2 | exact (mulQ_I64 _ _ _ _).1 | exact (mulQ_I64 _ _ _ _).2 | exact (subQ_I64 _ _ _ _).1 | exact (subQ_I64 _ _ _ _).2) (by first | assumption | exact (addQ_I64 _ _ _ _).1 | exact (addQ_I64 _ _ _ _).2 | exact (mulQ_I64 _ _ _ _).1 | exact (mulQ_I64 _ _ _ _).2 | exact (subQ_I64 _ _ _ _).1 | exact (subQ_I64 _ _ _ _).2) fun w68 hf => ?_; have m := m.fr hf
  intro w71; have m : Mem w0 w71 _ := m.allocL; clear_value w71
  refine ⟨m.wr 0 rfl rfl, ?_⟩
  intro w72; have m : Mem w0 w72 _ := m.set 0 rfl; clear_value w72; simp only [List.set_cons_zero] at m
  refine ⟨m.wr 0 rfl rfl, ?_⟩
  intro w73; have m : Mem w0 w73 _ := m.set 0 rfl; clear_value w73; simp only [List.set_cons_zero, List.set_cons_succ] at m
  refine cnd_iff.2 ⟨fun hc1 => ?_, fun hc1 => ?_⟩
  · refine ⟨_, m.ld 0 rfl rfl, ?_⟩
    refine cnd_iff.2 ⟨fun hc2 => ?_, fun hc2 => ?_⟩
    · exact absurd hc2 (by first | (rw [sub_sign_gt hr1 hr2 (by assumption)]; simp) | (rw [sub_sign_lt hr1 hr2 (by assumption)]; simp))
    · refine cnd_iff.2 ⟨fun hc3 => ?_, fun hc3 => ?_⟩
      · refine ⟨_, m.ld 0 rfl rfl, ?_⟩
        refine cnd_iff.2 ⟨fun hc4 => ?_, fun hc4 => ?_⟩
        · exact absurd hc4 (by first | (rw [sub_sign_gt hr1 hr2 (by assumption)]; simp) | (rw [sub_sign_lt hr1 hr2 (by assumption)]; simp))
        · exact Order_k1 hr1 hr2 hr3 hn1 hd1 hn2 hd2 hn3 hd3 m hK
      · exact Order_k1 hr1 hr2 hr3 hn1 hd1 hn2 hd2 hn3 hd3 m hK
  · refine cnd_iff.2 ⟨fun hc2 => ?_, fun hc2 => ?_⟩
    · refine ⟨_, m.ld 0 rfl rfl, ?_⟩
      refine cnd_iff.2 ⟨fun hc3 => ?_, fun hc3 => ?_⟩
      · exact absurd hc3 (by first | (rw [sub_sign_gt hr1 hr2 (by assumption)]; simp) | (rw [sub_sign_lt hr1 hr2 (by assumption)]; simp))
      · exact Order_k1 hr1 hr2 hr3 hn1 hd1 hn2 hd2 hn3 hd3 m hK
    · exact Order_k1 hr1 hr2 hr3 hn1 hd1 hn2 hd2 hn3 hd3 m hK

theorem Order_law {p1 q1 r1 p2 q2 r2 p3 q3 r3 : Int} {K : Bool → World → Prop} (g : Gl w) (hp1 : I64 p1 ∧ I64 q1 ∧ I64 r1) (hp2 : I64 p2 ∧ I64 q2 ∧ I64 r2) (hp3 : I64 p3 ∧ I64 q3 ∧ I64 r3) (hK : ∀ w', Fr F0 w w' → K true w') :
    probitylaw01_RatioOrder_sh p1 q1 r1 p2 q2 r2 p3 q3 r3 K w := by
  refine ⟨?_⟩
  unfold probitylaw01_RatioOrder_sd
  have m : Mem w w [] := Mem.nil
  intro w1; have m : Mem w w1 _ := m.allocL; clear_value w1
  intro w2; have m : Mem w w2 _ := m.allocL; clear_value w2
  intro w3; have m : Mem w w3 _ := m.allocL; clear_value w3
  refine sanity_spec (g.fr m.1) fun w4 hf => ?_; have m := m.fr hf
  refine ⟨_, m.ld 2 rfl rfl, ?_⟩
  refine ⟨_, m.ld 2 rfl rfl, ?_⟩
  refine ⟨_, m.ld 2 rfl rfl, ?_⟩
  refine Made_spec hp1.1 hp1.2.1 hp1.2.2 fun n1 d1 w9 hr1 hn1 hd1 hf => ?_; have m := m.fr hf
  intro w11; have m : Mem w w11 _ := m.allocL; clear_value w11
  refine ⟨m.wr 0 rfl rfl, ?_⟩
  intro w12; have m : Mem w w12 _ := m.set 0 rfl; clear_value w12; simp only [List.set_cons_zero] at m
  refine ⟨m.wr 0 rfl rfl, ?_⟩
  intro w13; have m : Mem w w13 _ := m.set 0 rfl; clear_value w13; simp only [List.set_cons_zero, List.set_cons_succ] at m
  refine ⟨_, m.ld 2 rfl rfl, ?_⟩
  refine ⟨_, m.ld 2 rfl rfl, ?_⟩
  refine ⟨_, m.ld 2 rfl rfl, ?_⟩
  refine Made_spec hp2.1 hp2.2.1 hp2.2.2 fun n2 d2 w17 hr2 hn2 hd2 hf => ?_; have m := m.fr hf
  intro w19; have m : Mem w w19 _ := m.allocL; clear_value w19
  refine ⟨m.wr 0 rfl rfl, ?_⟩
  intro w20; have m : Mem w w20 _ := m.set 0 rfl; clear_value w20; simp only [List.set_cons_zero] at m
  refine ⟨m.wr 0 rfl rfl, ?_⟩
  intro w21; have m : Mem w w21 _ := m.set 0 rfl; clear_value w21; simp only [List.set_cons_zero, List.set_cons_succ] at m
  refine ⟨_, m.ld 2 rfl rfl, ?_⟩
  refine ⟨_, m.ld 2 rfl rfl, ?_⟩
  refine ⟨_, m.ld 2 rfl rfl, ?_⟩
  refine Made_spec hp3.1 hp3.2.1 hp3.2.2 fun n3 d3 w25 hr3 hn3 hd3 hf => ?_; have m := m.fr hf
  intro w27; have m : Mem w w27 _ := m.allocL; clear_value w27
  refine ⟨m.wr 0 rfl rfl, ?_⟩
  intro w28; have m : Mem w w28 _ := m.set 0 rfl; clear_value w28; simp only [List.set_cons_zero] at m
  refine ⟨m.wr 0 rfl rfl, ?_⟩
  intro w29; have m : Mem w w29 _ := m.set 0 rfl; clear_value w29; simp only [List.set_cons_zero, List.set_cons_succ] at m
  refine ⟨_, m.ld 2 rfl rfl, ?_⟩
  refine ⟨_, m.ld 2 rfl rfl, ?_⟩
  refine ⟨_, m.ld 1 rfl rfl, ?_⟩
  refine ⟨_, m.ld 1 rfl rfl, ?_⟩
  refine Cmp_spec (by first | assumption | exact (addQ_I64 _ _ _ _).1 | exact (addQ_I64 _ _ _ _).2 | exact (mulQ_I64 _ _ _ _).1 | exact (mulQ_I64 _ _ _ _).2 | exact (subQ_I64 _ _ _ _).1 | exact (subQ_I64 _ _ _ _).2) (by first | assumption | exact (addQ_I64 _ _ _ _).1 | exact (addQ_I64 _ _ _ _).2 | exact (mulQ_I64 _ _ _ _).1 | exact (mulQ_I64 _ _ _ _).2 | exact (subQ_I64 _ _ _ _).1 | exact (subQ_I64 _ _ _ _).2) (by first | assumption | exact (addQ_I64 _ _ _ _).1 | exact (addQ_I64 _ _ _ _).2 | exact (mulQ_I64 _ _ _ _).1 | exact (mulQ_I64 _ _ _ _).2 | exact (subQ_I64 _ _ _ _).1 | exact (subQ_I64 _ _ _ _).2) (by first | assumption | exact (addQ_I64 _ _ _ _).1 | exact (addQ_I64 _ _ _ _).2 | exact (mulQ_I64 _ _ _ _).1 | exact (mulQ_I64 _ _ _ _).2 | exact (subQ_I64 _ _ _ _).1 | exact (subQ_I64 _ _ _ _).2) fun w34 hf => ?_; have m := m.fr hf
  refine ⟨_, m.ld 1 rfl rfl, ?_⟩
  refine ⟨_, m.ld 1 rfl rfl, ?_⟩
  refine ⟨_, m.ld 2 rfl rfl, ?_⟩
  refine ⟨_, m.ld 2 rfl rfl, ?_⟩
  refine Cmp_spec (by first | assumption | exact (addQ_I64 _ _ _ _).1 | exact (addQ_I64 _ _ _ _).2 | exact (mulQ_I64 _ _ _ _).1 | exact (mulQ_I64 _ _ _ _).2 | exact (subQ_I64 _ _ _ _).1 | exact (subQ_I64 _ _ _ _).2) (by first | assumption | exact (addQ_I64 _ _ _ _).1 | exact (addQ_I64 _ _ _ _).2 | exact (mulQ_I64 _ _ _ _).1 | exact (mulQ_I64 _ _ _ _).2 | exact (subQ_I64 _ _ _ _).1 | exact (subQ_I64 _ _ _ _).2) (by first | assumption | exact (addQ_I64 _ _ _ _).1 | exact (addQ_I64 _ _ _ _).2 | exact (mulQ_I64 _ _ _ _).1 | exact (mulQ_I64 _ _ _ _).2 | exact (subQ_I64 _ _ _ _).1 | exact (subQ_I64 _ _ _ _).2) (by first | assumption | exact (addQ_I64 _ _ _ _).1 | exact (addQ_I64 _ _ _ _).2 | exact (mulQ_I64 _ _ _ _).1 | exact (mulQ_I64 _ _ _ _).2 | exact (subQ_I64 _ _ _ _).1 | exact (subQ_I64 _ _ _ _).2) fun w40 hf => ?_; have m := m.fr hf
  refine ⟨(by have := cmpQ_range n1 d1 n2 d2; exact inR64 (by omega) (by omega)), ?_⟩
  refine cnd_bne.2 ⟨fun hc1 => ?_, fun hc1 => ?_⟩
  · first | exact absurd (cmp_neg hr1 hr2) hc1 | exact absurd hc1 (by rw [cmp_zero hr1 hr2]; simp)
  · refine ⟨_, m.ld 2 rfl rfl, ?_⟩
    refine ⟨_, m.ld 2 rfl rfl, ?_⟩
    refine ⟨_, m.ld 1 rfl rfl, ?_⟩
    refine ⟨_, m.ld 1 rfl rfl, ?_⟩
    refine cnd_iff.2 ⟨fun hc2 => ?_, fun hc2 => ?_⟩
    · first | exact absurd (cmp_neg hr1 hr2) hc1 | exact absurd hc2 (by rw [cmp_zero hr1 hr2]; simp)
    · refine ⟨_, m.ld 2 rfl rfl, ?_⟩
      refine ⟨_, m.ld 2 rfl rfl, ?_⟩
      refine ⟨_, m.ld 2 rfl rfl, ?_⟩
      refine ⟨_, m.ld 2 rfl rfl, ?_⟩
      refine Cmp_spec (by first | assumption | exact (addQ_I64 _ _ _ _).1 | exact (addQ_I64 _ _ _ _).2 | exact (mulQ_I64 _ _ _ _).1 | exact (mulQ_I64 _ _ _ _).2 | exact (subQ_I64 _ _ _ _).1 | exact (subQ_I64 _ _ _ _).2) (by first | assumption | exact (addQ_I64 _ _ _ _).1 | exact (addQ_I64 _ _ _ _).2 | exact (mulQ_I64 _ _ _ _).1 | exact (mulQ_I64 _ _ _ _).2 | exact (subQ_I64 _ _ _ _).1 | exact (subQ_I64 _ _ _ _).2) (by first | assumption | exact (addQ_I64 _ _ _ _).1 | exact (addQ_I64 _ _ _ _).2 | exact (mulQ_I64 _ _ _ _).1 | exact (mulQ_I64 _ _ _ _).2 | exact (subQ_I64 _ _ _ _).1 | exact (subQ_I64 _ _ _ _).2) (by first | assumption | exact (addQ_I64 _ _ _ _).1 | exact (addQ_I64 _ _ _ _).2 | exact (mulQ_I64 _ _ _ _).1 | exact (mulQ_I64 _ _ _ _).2 | exact (subQ_I64 _ _ _ _).1 | exact (subQ_I64 _ _ _ _).2) fun w50 hf => ?_; have m := m.fr hf
      refine cnd_bne.2 ⟨fun hc3 => ?_, fun hc3 => ?_⟩
      · exact absurd (cmp_self hr1) hc3
      · refine cnd_prop.2 ⟨fun hc4 => ?_, fun hc4 => ?_⟩
        · refine ⟨_, m.ld 1 rfl rfl, ?_⟩
          refine ⟨_, m.ld 1 rfl rfl, ?_⟩
          refine ⟨_, m.ld 0 rfl rfl, ?_⟩
          refine ⟨_, m.ld 0 rfl rfl, ?_⟩
          refine Cmp_spec (by first | assumption | exact (addQ_I64 _ _ _ _).1 | exact (addQ_I64 _ _ _ _).2 | exact (mulQ_I64 _ _ _ _).1 | exact (mulQ_I64 _ _ _ _).2 | exact (subQ_I64 _ _ _ _).1 | exact (subQ_I64 _ _ _ _).2) (by first | assumption | exact (addQ_I64 _ _ _ _).1 | exact (addQ_I64 _ _ _ _).2 | exact (mulQ_I64 _ _ _ _).1 | exact (mulQ_I64 _ _ _ _).2 | exact (subQ_I64 _ _ _ _).1 | exact (subQ_I64 _ _ _ _).2) (by first | assumption | exact (addQ_I64 _ _ _ _).1 | exact (addQ_I64 _ _ _ _).2 | exact (mulQ_I64 _ _ _ _).1 | exact (mulQ_I64 _ _ _ _).2 | exact (subQ_I64 _ _ _ _).1 | exact (subQ_I64 _ _ _ _).2) (by first | assumption | exact (addQ_I64 _ _ _ _).1 | exact (addQ_I64 _ _ _ _).2 | exact (mulQ_I64 _ _ _ _).1 | exact (mulQ_I64 _ _ _ _).2 | exact (subQ_I64 _ _ _ _).1 | exact (subQ_I64 _ _ _ _).2) fun w56 hf => ?_; have m := m.fr hf
          refine cnd_prop.2 ⟨fun hc5 => ?_, fun hc5 => ?_⟩
          · refine ⟨_, m.ld 2 rfl rfl, ?_⟩
            refine ⟨_, m.ld 2 rfl rfl, ?_⟩
            refine ⟨_, m.ld 0 rfl rfl, ?_⟩
            refine ⟨_, m.ld 0 rfl rfl, ?_⟩
            refine Cmp_spec (by first | assumption | exact (addQ_I64 _ _ _ _).1 | exact (addQ_I64 _ _ _ _).2 | exact (mulQ_I64 _ _ _ _).1 | exact (mulQ_I64 _ _ _ _).2 | exact (subQ_I64 _ _ _ _).1 | exact (subQ_I64 _ _ _ _).2) (by first | assumption | exact (addQ_I64 _ _ _ _).1 | exact (addQ_I64 _ _ _ _).2 | exact (mulQ_I64 _ _ _ _).1 | exact (mulQ_I64 _ _ _ _).2 | exact (subQ_I64 _ _ _ _).1 | exact (subQ_I64 _ _ _ _).2) (by first | assumption | exact (addQ_I64 _ _ _ _).1 | exact (addQ_I64 _ _ _ _).2 | exact (mulQ_I64 _ _ _ _).1 | exact (mulQ_I64 _ _ _ _).2 | exact (subQ_I64 _ _ _ _).1 | exact (subQ_I64 _ _ _ _).2) (by first | assumption | exact (addQ_I64 _ _ _ _).1 | exact (addQ_I64 _ _ _ _).2 | exact (mulQ_I64 _ _ _ _).1 | exact (mulQ_I64 _ _ _ _).2 | exact (subQ_I64 _ _ _ _).1 | exact (subQ_I64 _ _ _ _).2) fun w62 hf => ?_; have m := m.fr hf
            refine cnd_prop.2 ⟨fun hc6 => ?_, fun hc6 => ?_⟩
            · exact absurd (cmp_trans hr1 hr2 hr3 hc4 hc5) (by omega)
            · exact Order_k0 hr1 hr2 hr3 hn1 hd1 hn2 hd2 hn3 hd3 m hK
          · exact Order_k0 hr1 hr2 hr3 hn1 hd1 hn2 hd2 hn3 hd3 m hK
        · exact Order_k0 hr1 hr2 hr3 hn1 hd1 hn2 hd2 hn3 hd3 m hK
end
end Go.Proofs.YtfclokkfnkieoaaDoor