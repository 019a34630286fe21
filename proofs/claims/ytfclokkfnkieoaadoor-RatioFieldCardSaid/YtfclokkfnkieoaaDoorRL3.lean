/- The law RatioField: its contract. Conditions: none. -/
import Derived.Test.YtfclokkfnkieoaaDoorRQ1
import Derived.Test.YtfclokkfnkieoaaDoorRG3
namespace Go.Proofs.YtfclokkfnkieoaaDoor
open Go Pw

section
variable {w w0 : World}

theorem Field_k1 {n1 d1 n2 d2 n3 d3 : Int} {b0 b1 b2 b3 b4 b5 b6 b7 b8 b9 b10 b11 : Nat} {c0 c1 c3 c8 c9 c10 c11 : List Value} {K : Bool → World → Prop} (hr1 : rightP n1 d1) (hr2 : rightP n2 d2) (hr3 : rightP n3 d3) (hn1 : I64 n1) (hd1 : I64 d1) (hn2 : I64 n2) (hd2 : I64 d2) (hn3 : I64 n3) (hd3 : I64 d3)
    (m : Mem w0 w [(b11, c11), (b0, c0), (b1, c1), (b2, [.int .i64 (mulQ n1 d1 n2 d2).n, .int .i64 (mulQ n1 d1 n2 d2).d]), (b3, c3), (b4, [.int .i64 (addQ n1 d1 n2 d2).n, .int .i64 (addQ n1 d1 n2 d2).d]), (b5, [.int .i64 n3, .int .i64 d3]), (b6, [.int .i64 n2, .int .i64 d2]), (b7, [.int .i64 n1, .int .i64 d1]), (b8, c8), (b9, c9), (b10, c10)])
    (hK : ∀ w', Fr F0 w0 w' → K true w') : probitylaw01_RatioField_k1 true ⟨b7, 0, none⟩ ⟨b6, 0, none⟩ ⟨b5, 0, none⟩ ⟨b4, 0, none⟩ (addQ n1 d1 n2 d2).ok K w := by
  refine ⟨?_⟩
  unfold probitylaw01_RatioField_k1d
  refine ⟨_, m.ld 5 rfl rfl, ?_⟩
  refine ⟨_, m.ld 5 rfl rfl, ?_⟩
  refine ⟨_, m.ld 6 rfl rfl, ?_⟩
  refine ⟨_, m.ld 6 rfl rfl, ?_⟩
  refine Mul_s (by first | assumption | exact (addQ_I64 _ _ _ _).1 | exact (addQ_I64 _ _ _ _).2 | exact (mulQ_I64 _ _ _ _).1 | exact (mulQ_I64 _ _ _ _).2 | exact (subQ_I64 _ _ _ _).1 | exact (subQ_I64 _ _ _ _).2) (by first | assumption | exact (addQ_I64 _ _ _ _).1 | exact (addQ_I64 _ _ _ _).2 | exact (mulQ_I64 _ _ _ _).1 | exact (mulQ_I64 _ _ _ _).2 | exact (subQ_I64 _ _ _ _).1 | exact (subQ_I64 _ _ _ _).2) (by first | assumption | exact (addQ_I64 _ _ _ _).1 | exact (addQ_I64 _ _ _ _).2 | exact (mulQ_I64 _ _ _ _).1 | exact (mulQ_I64 _ _ _ _).2 | exact (subQ_I64 _ _ _ _).1 | exact (subQ_I64 _ _ _ _).2) (by first | assumption | exact (addQ_I64 _ _ _ _).1 | exact (addQ_I64 _ _ _ _).2 | exact (mulQ_I64 _ _ _ _).1 | exact (mulQ_I64 _ _ _ _).2 | exact (subQ_I64 _ _ _ _).1 | exact (subQ_I64 _ _ _ _).2) fun w115 hf => ?_; have m := m.fr hf
  intro w118; have m : Mem w0 w118 _ := m.allocL; clear_value w118
  refine ⟨m.wr 0 rfl rfl, ?_⟩
  intro w119; have m : Mem w0 w119 _ := m.set 0 rfl; clear_value w119; simp only [List.set_cons_zero] at m
  refine ⟨m.wr 0 rfl rfl, ?_⟩
  intro w120; have m : Mem w0 w120 _ := m.set 0 rfl; clear_value w120; simp only [List.set_cons_zero, List.set_cons_succ] at m
  refine ⟨_, m.ld 9 rfl rfl, ?_⟩
  refine ⟨_, m.ld 9 rfl rfl, ?_⟩
  refine ⟨_, m.ld 7 rfl rfl, ?_⟩
  refine ⟨_, m.ld 7 rfl rfl, ?_⟩
  refine Mul_s (by first | assumption | exact (addQ_I64 _ _ _ _).1 | exact (addQ_I64 _ _ _ _).2 | exact (mulQ_I64 _ _ _ _).1 | exact (mulQ_I64 _ _ _ _).2 | exact (subQ_I64 _ _ _ _).1 | exact (subQ_I64 _ _ _ _).2) (by first | assumption | exact (addQ_I64 _ _ _ _).1 | exact (addQ_I64 _ _ _ _).2 | exact (mulQ_I64 _ _ _ _).1 | exact (mulQ_I64 _ _ _ _).2 | exact (subQ_I64 _ _ _ _).1 | exact (subQ_I64 _ _ _ _).2) (by first | assumption | exact (addQ_I64 _ _ _ _).1 | exact (addQ_I64 _ _ _ _).2 | exact (mulQ_I64 _ _ _ _).1 | exact (mulQ_I64 _ _ _ _).2 | exact (subQ_I64 _ _ _ _).1 | exact (subQ_I64 _ _ _ _).2) (by first | assumption | exact (addQ_I64 _ _ _ _).1 | exact (addQ_I64 _ _ _ _).2 | exact (mulQ_I64 _ _ _ _).1 | exact (mulQ_I64 _ _ _ _).2 | exact (subQ_I64 _ _ _ _).1 | exact (subQ_I64 _ _ _ _).2) fun w125 hf => ?_; have m := m.fr hf
  intro w128; have m : Mem w0 w128 _ := m.allocL; clear_value w128
  refine ⟨m.wr 0 rfl rfl, ?_⟩
  intro w129; have m : Mem w0 w129 _ := m.set 0 rfl; clear_value w129; simp only [List.set_cons_zero] at m
  refine ⟨m.wr 0 rfl rfl, ?_⟩
  intro w130; have m : Mem w0 w130 _ := m.set 0 rfl; clear_value w130; simp only [List.set_cons_zero, List.set_cons_succ] at m
  refine ⟨_, m.ld 9 rfl rfl, ?_⟩
  refine ⟨_, m.ld 9 rfl rfl, ?_⟩
  refine ⟨_, m.ld 8 rfl rfl, ?_⟩
  refine ⟨_, m.ld 8 rfl rfl, ?_⟩
  refine Mul_s (by first | assumption | exact (addQ_I64 _ _ _ _).1 | exact (addQ_I64 _ _ _ _).2 | exact (mulQ_I64 _ _ _ _).1 | exact (mulQ_I64 _ _ _ _).2 | exact (subQ_I64 _ _ _ _).1 | exact (subQ_I64 _ _ _ _).2) (by first | assumption | exact (addQ_I64 _ _ _ _).1 | exact (addQ_I64 _ _ _ _).2 | exact (mulQ_I64 _ _ _ _).1 | exact (mulQ_I64 _ _ _ _).2 | exact (subQ_I64 _ _ _ _).1 | exact (subQ_I64 _ _ _ _).2) (by first | assumption | exact (addQ_I64 _ _ _ _).1 | exact (addQ_I64 _ _ _ _).2 | exact (mulQ_I64 _ _ _ _).1 | exact (mulQ_I64 _ _ _ _).2 | exact (subQ_I64 _ _ _ _).1 | exact (subQ_I64 _ _ _ _).2) (by first | assumption | exact (addQ_I64 _ _ _ _).1 | exact (addQ_I64 _ _ _ _).2 | exact (mulQ_I64 _ _ _ _).1 | exact (mulQ_I64 _ _ _ _).2 | exact (subQ_I64 _ _ _ _).1 | exact (subQ_I64 _ _ _ _).2) fun w135 hf => ?_; have m := m.fr hf
  intro w138; have m : Mem w0 w138 _ := m.allocL; clear_value w138
  refine ⟨m.wr 0 rfl rfl, ?_⟩
  intro w139; have m : Mem w0 w139 _ := m.set 0 rfl; clear_value w139; simp only [List.set_cons_zero] at m
  refine ⟨m.wr 0 rfl rfl, ?_⟩
  intro w140; have m : Mem w0 w140 _ := m.set 0 rfl; clear_value w140; simp only [List.set_cons_zero, List.set_cons_succ] at m
  refine ⟨_, m.ld 1 rfl rfl, ?_⟩
  refine ⟨_, m.ld 1 rfl rfl, ?_⟩
  refine ⟨_, m.ld 0 rfl rfl, ?_⟩
  refine ⟨_, m.ld 0 rfl rfl, ?_⟩
  refine Add_s (by first | assumption | exact (addQ_I64 _ _ _ _).1 | exact (addQ_I64 _ _ _ _).2 | exact (mulQ_I64 _ _ _ _).1 | exact (mulQ_I64 _ _ _ _).2 | exact (subQ_I64 _ _ _ _).1 | exact (subQ_I64 _ _ _ _).2) (by first | assumption | exact (addQ_I64 _ _ _ _).1 | exact (addQ_I64 _ _ _ _).2 | exact (mulQ_I64 _ _ _ _).1 | exact (mulQ_I64 _ _ _ _).2 | exact (subQ_I64 _ _ _ _).1 | exact (subQ_I64 _ _ _ _).2) (by first | assumption | exact (addQ_I64 _ _ _ _).1 | exact (addQ_I64 _ _ _ _).2 | exact (mulQ_I64 _ _ _ _).1 | exact (mulQ_I64 _ _ _ _).2 | exact (subQ_I64 _ _ _ _).1 | exact (subQ_I64 _ _ _ _).2) (by first | assumption | exact (addQ_I64 _ _ _ _).1 | exact (addQ_I64 _ _ _ _).2 | exact (mulQ_I64 _ _ _ _).1 | exact (mulQ_I64 _ _ _ _).2 | exact (subQ_I64 _ _ _ _).1 | exact (subQ_I64 _ _ _ _).2) fun w145 hf => ?_; have m := m.fr hf
  intro w148; have m : Mem w0 w148 _ := m.allocL; clear_value w148
  refine ⟨m.wr 0 rfl rfl, ?_⟩
  intro w149; have m : Mem w0 w149 _ := m.set 0 rfl; clear_value w149; simp only [List.set_cons_zero] at m
  refine ⟨m.wr 0 rfl rfl, ?_⟩
  intro w150; have m : Mem w0 w150 _ := m.set 0 rfl; clear_value w150; simp only [List.set_cons_zero, List.set_cons_succ] at m
  rw [cnd_true]
  refine cnd_iff.2 ⟨fun hc2 => ?_, fun hc2 => ?_⟩
  · exact hK _ m.1
  · refine cnd_iff.2 ⟨fun hc3 => ?_, fun hc3 => ?_⟩
    · exact hK _ m.1
    · refine cnd_iff.2 ⟨fun hc4 => ?_, fun hc4 => ?_⟩
      · exact hK _ m.1
      · refine cnd_iff.2 ⟨fun hc5 => ?_, fun hc5 => ?_⟩
        · exact hK _ m.1
        · refine cnd_iff.2 ⟨fun hc6 => ?_, fun hc6 => ?_⟩
          · exact hK _ m.1
          · refine ⟨_, m.ld 3 rfl rfl, ?_⟩
            refine ⟨_, m.ld 3 rfl rfl, ?_⟩
            refine ⟨_, m.ld 0 rfl rfl, ?_⟩
            refine ⟨_, m.ld 0 rfl rfl, ?_⟩
            rw [(dist_q hr1 hr2 hr3 (by simpa using hc2) (by simpa using hc3) (by simpa using hc4) (by simpa using hc5) (by simpa using hc6)).1, (dist_q hr1 hr2 hr3 (by simpa using hc2) (by simpa using hc3) (by simpa using hc4) (by simpa using hc5) (by simpa using hc6)).2]; simpa using hK _ m.1

theorem Field_k0 {n1 d1 n2 d2 n3 d3 : Int} {b0 b1 b2 b3 b4 b5 b6 b7 b8 b9 b10 : Nat} {c0 c1 c3 c8 c9 c10 : List Value} {K : Bool → World → Prop} (hr1 : rightP n1 d1) (hr2 : rightP n2 d2) (hr3 : rightP n3 d3) (hn1 : I64 n1) (hd1 : I64 d1) (hn2 : I64 n2) (hd2 : I64 d2) (hn3 : I64 n3) (hd3 : I64 d3)
    (m : Mem w0 w [(b0, c0), (b1, c1), (b2, [.int .i64 (mulQ n1 d1 n2 d2).n, .int .i64 (mulQ n1 d1 n2 d2).d]), (b3, c3), (b4, [.int .i64 (addQ n1 d1 n2 d2).n, .int .i64 (addQ n1 d1 n2 d2).d]), (b5, [.int .i64 n3, .int .i64 d3]), (b6, [.int .i64 n2, .int .i64 d2]), (b7, [.int .i64 n1, .int .i64 d1]), (b8, c8), (b9, c9), (b10, c10)])
    (hK : ∀ w', Fr F0 w0 w' → K true w') : probitylaw01_RatioField_k0 true ⟨b7, 0, none⟩ ⟨b6, 0, none⟩ ⟨b5, 0, none⟩ ⟨b4, 0, none⟩ (addQ n1 d1 n2 d2).ok ⟨b2, 0, none⟩ (mulQ n1 d1 n2 d2).ok K w := by
  refine ⟨?_⟩
  unfold probitylaw01_RatioField_k0d
  refine ⟨_, m.ld 2 rfl rfl, ?_⟩
  refine ⟨_, m.ld 2 rfl rfl, ?_⟩
  refine ⟨_, m.ld 6 rfl rfl, ?_⟩
  refine ⟨_, m.ld 6 rfl rfl, ?_⟩
  refine Quo_s (by first | assumption | exact (addQ_I64 _ _ _ _).1 | exact (addQ_I64 _ _ _ _).2 | exact (mulQ_I64 _ _ _ _).1 | exact (mulQ_I64 _ _ _ _).2 | exact (subQ_I64 _ _ _ _).1 | exact (subQ_I64 _ _ _ _).2) (by first | assumption | exact (addQ_I64 _ _ _ _).1 | exact (addQ_I64 _ _ _ _).2 | exact (mulQ_I64 _ _ _ _).1 | exact (mulQ_I64 _ _ _ _).2 | exact (subQ_I64 _ _ _ _).1 | exact (subQ_I64 _ _ _ _).2) (by first | assumption | exact (addQ_I64 _ _ _ _).1 | exact (addQ_I64 _ _ _ _).2 | exact (mulQ_I64 _ _ _ _).1 | exact (mulQ_I64 _ _ _ _).2 | exact (subQ_I64 _ _ _ _).1 | exact (subQ_I64 _ _ _ _).2) (by first | assumption | exact (addQ_I64 _ _ _ _).1 | exact (addQ_I64 _ _ _ _).2 | exact (mulQ_I64 _ _ _ _).1 | exact (mulQ_I64 _ _ _ _).2 | exact (subQ_I64 _ _ _ _).1 | exact (subQ_I64 _ _ _ _).2) fun w100 hf => ?_; have m := m.fr hf
  intro w103; have m : Mem w0 w103 _ := m.allocL; clear_value w103
  refine ⟨m.wr 0 rfl rfl, ?_⟩
  intro w104; have m : Mem w0 w104 _ := m.set 0 rfl; clear_value w104; simp only [List.set_cons_zero] at m
  refine ⟨m.wr 0 rfl rfl, ?_⟩
  intro w105; have m : Mem w0 w105 _ := m.set 0 rfl; clear_value w105; simp only [List.set_cons_zero, List.set_cons_succ] at m
  refine cnd_iff.2 ⟨fun hc1 => ?_, fun hc1 => ?_⟩
  · refine ⟨_, m.ld 7 rfl rfl, ?_⟩
    refine cnd_bne.2 ⟨fun hc2 => ?_, fun hc2 => ?_⟩
    · refine cnd_iff.2 ⟨fun hc3 => ?_, fun hc3 => ?_⟩
      · exact absurd hc3 (by rw [under_q hr1 hr2 hn1 hd1 hc2 hc1]; simp)
      · refine ⟨_, m.ld 0 rfl rfl, ?_⟩
        refine ⟨_, m.ld 0 rfl rfl, ?_⟩
        refine ⟨_, m.ld 8 rfl rfl, ?_⟩
        refine ⟨_, m.ld 8 rfl rfl, ?_⟩
        refine cnd_iff.2 ⟨fun hc4 => ?_, fun hc4 => ?_⟩
        · exact absurd hc4 (by rw [under_q hr1 hr2 hn1 hd1 hc2 hc1]; simp)
        · exact Field_k1 hr1 hr2 hr3 hn1 hd1 hn2 hd2 hn3 hd3 m hK
    · exact Field_k1 hr1 hr2 hr3 hn1 hd1 hn2 hd2 hn3 hd3 m hK
  · exact Field_k1 hr1 hr2 hr3 hn1 hd1 hn2 hd2 hn3 hd3 m hK

theorem Field_law {p1 q1 r1 p2 q2 r2 p3 q3 r3 : Int} {K : Bool → World → Prop} (g : Gl w) (hp1 : I64 p1 ∧ I64 q1 ∧ I64 r1) (hp2 : I64 p2 ∧ I64 q2 ∧ I64 r2) (hp3 : I64 p3 ∧ I64 q3 ∧ I64 r3) (hK : ∀ w', Fr F0 w w' → K true w') :
    probitylaw01_RatioField_sh p1 q1 r1 p2 q2 r2 p3 q3 r3 K w := by
  refine ⟨?_⟩
  unfold probitylaw01_RatioField_sd
  have m : Mem w w [] := Mem.nil
  intro w1; have m : Mem w w1 _ := m.allocL; clear_value w1
  intro w2; have m : Mem w w2 _ := m.allocL; clear_value w2
  intro w3; have m : Mem w w3 _ := m.allocL; clear_value w3
  refine sanity_spec (g.fr m.1) fun w4 hf => ?_; have m := m.fr hf
  refine ⟨_, m.ld 2 rfl rfl, ?_⟩
  refine ⟨_, m.ld 2 rfl rfl, ?_⟩
  refine ⟨_, m.ld 2 rfl rfl, ?_⟩
  refine Made_spec hp1.1 hp1.2.1 hp1.2.2 fun n1 d1 w9 hr1 hn1 hd1 hf => ?_; have m := m.fr hf
  intro w11; have m : Mem w w11 _ := m.allocL; clear_value w11
  refine ⟨m.wr 0 rfl rfl, ?_⟩
  intro w12; have m : Mem w w12 _ := m.set 0 rfl; clear_value w12; simp only [List.set_cons_zero] at m
  refine ⟨m.wr 0 rfl rfl, ?_⟩
  intro w13; have m : Mem w w13 _ := m.set 0 rfl; clear_value w13; simp only [List.set_cons_zero, List.set_cons_succ] at m
  refine ⟨_, m.ld 2 rfl rfl, ?_⟩
  refine ⟨_, m.ld 2 rfl rfl, ?_⟩
  refine ⟨_, m.ld 2 rfl rfl, ?_⟩
  refine Made_spec hp2.1 hp2.2.1 hp2.2.2 fun n2 d2 w17 hr2 hn2 hd2 hf => ?_; have m := m.fr hf
  intro w19; have m : Mem w w19 _ := m.allocL; clear_value w19
  refine ⟨m.wr 0 rfl rfl, ?_⟩
  intro w20; have m : Mem w w20 _ := m.set 0 rfl; clear_value w20; simp only [List.set_cons_zero] at m
  refine ⟨m.wr 0 rfl rfl, ?_⟩
  intro w21; have m : Mem w w21 _ := m.set 0 rfl; clear_value w21; simp only [List.set_cons_zero, List.set_cons_succ] at m
  refine ⟨_, m.ld 2 rfl rfl, ?_⟩
  refine ⟨_, m.ld 2 rfl rfl, ?_⟩
  refine ⟨_, m.ld 2 rfl rfl, ?_⟩
  refine Made_spec hp3.1 hp3.2.1 hp3.2.2 fun n3 d3 w25 hr3 hn3 hd3 hf => ?_; have m := m.fr hf
  intro w27; have m : Mem w w27 _ := m.allocL; clear_value w27
  refine ⟨m.wr 0 rfl rfl, ?_⟩
  intro w28; have m : Mem w w28 _ := m.set 0 rfl; clear_value w28; simp only [List.set_cons_zero] at m
  refine ⟨m.wr 0 rfl rfl, ?_⟩
  intro w29; have m : Mem w w29 _ := m.set 0 rfl; clear_value w29; simp only [List.set_cons_zero, List.set_cons_succ] at m
  refine ⟨_, m.ld 2 rfl rfl, ?_⟩
  refine ⟨_, m.ld 2 rfl rfl, ?_⟩
  refine ⟨_, m.ld 1 rfl rfl, ?_⟩
  refine ⟨_, m.ld 1 rfl rfl, ?_⟩
  refine Add_s (by first | assumption | exact (addQ_I64 _ _ _ _).1 | exact (addQ_I64 _ _ _ _).2 | exact (mulQ_I64 _ _ _ _).1 | exact (mulQ_I64 _ _ _ _).2 | exact (subQ_I64 _ _ _ _).1 | exact (subQ_I64 _ _ _ _).2) (by first | assumption | exact (addQ_I64 _ _ _ _).1 | exact (addQ_I64 _ _ _ _).2 | exact (mulQ_I64 _ _ _ _).1 | exact (mulQ_I64 _ _ _ _).2 | exact (subQ_I64 _ _ _ _).1 | exact (subQ_I64 _ _ _ _).2) (by first | assumption | exact (addQ_I64 _ _ _ _).1 | exact (addQ_I64 _ _ _ _).2 | exact (mulQ_I64 _ _ _ _).1 | exact (mulQ_I64 _ _ _ _).2 | exact (subQ_I64 _ _ _ _).1 | exact (subQ_I64 _ _ _ _).2) (by first | assumption | exact (addQ_I64 _ _ _ _).1 | exact (addQ_I64 _ _ _ _).2 | exact (mulQ_I64 _ _ _ _).1 | exact (mulQ_I64 _ _ _ _).2 | exact (subQ_I64 _ _ _ _).1 | exact (subQ_I64 _ _ _ _).2) fun w34 hf => ?_; have m := m.fr hf
  intro w37; have m : Mem w w37 _ := m.allocL; clear_value w37
  refine ⟨m.wr 0 rfl rfl, ?_⟩
  intro w38; have m : Mem w w38 _ := m.set 0 rfl; clear_value w38; simp only [List.set_cons_zero] at m
  refine ⟨m.wr 0 rfl rfl, ?_⟩
  intro w39; have m : Mem w w39 _ := m.set 0 rfl; clear_value w39; simp only [List.set_cons_zero, List.set_cons_succ] at m
  refine ⟨_, m.ld 2 rfl rfl, ?_⟩
  refine ⟨_, m.ld 2 rfl rfl, ?_⟩
  refine ⟨_, m.ld 3 rfl rfl, ?_⟩
  refine ⟨_, m.ld 3 rfl rfl, ?_⟩
  refine Add_s (by first | assumption | exact (addQ_I64 _ _ _ _).1 | exact (addQ_I64 _ _ _ _).2 | exact (mulQ_I64 _ _ _ _).1 | exact (mulQ_I64 _ _ _ _).2 | exact (subQ_I64 _ _ _ _).1 | exact (subQ_I64 _ _ _ _).2) (by first | assumption | exact (addQ_I64 _ _ _ _).1 | exact (addQ_I64 _ _ _ _).2 | exact (mulQ_I64 _ _ _ _).1 | exact (mulQ_I64 _ _ _ _).2 | exact (subQ_I64 _ _ _ _).1 | exact (subQ_I64 _ _ _ _).2) (by first | assumption | exact (addQ_I64 _ _ _ _).1 | exact (addQ_I64 _ _ _ _).2 | exact (mulQ_I64 _ _ _ _).1 | exact (mulQ_I64 _ _ _ _).2 | exact (subQ_I64 _ _ _ _).1 | exact (subQ_I64 _ _ _ _).2) (by first | assumption | exact (addQ_I64 _ _ _ _).1 | exact (addQ_I64 _ _ _ _).2 | exact (mulQ_I64 _ _ _ _).1 | exact (mulQ_I64 _ _ _ _).2 | exact (subQ_I64 _ _ _ _).1 | exact (subQ_I64 _ _ _ _).2) fun w44 hf => ?_; have m := m.fr hf
  intro w47; have m : Mem w w47 _ := m.allocL; clear_value w47
  refine ⟨m.wr 0 rfl rfl, ?_⟩
  intro w48; have m : Mem w w48 _ := m.set 0 rfl; clear_value w48; simp only [List.set_cons_zero] at m
  refine ⟨m.wr 0 rfl rfl, ?_⟩
  intro w49; have m : Mem w w49 _ := m.set 0 rfl; clear_value w49; simp only [List.set_cons_zero, List.set_cons_succ] at m
  refine ⟨_, m.ld 4 rfl rfl, ?_⟩
  refine ⟨_, m.ld 4 rfl rfl, ?_⟩
  refine ⟨_, m.ld 3 rfl rfl, ?_⟩
  refine ⟨_, m.ld 3 rfl rfl, ?_⟩
  refine Mul_s (by first | assumption | exact (addQ_I64 _ _ _ _).1 | exact (addQ_I64 _ _ _ _).2 | exact (mulQ_I64 _ _ _ _).1 | exact (mulQ_I64 _ _ _ _).2 | exact (subQ_I64 _ _ _ _).1 | exact (subQ_I64 _ _ _ _).2) (by first | assumption | exact (addQ_I64 _ _ _ _).1 | exact (addQ_I64 _ _ _ _).2 | exact (mulQ_I64 _ _ _ _).1 | exact (mulQ_I64 _ _ _ _).2 | exact (subQ_I64 _ _ _ _).1 | exact (subQ_I64 _ _ _ _).2) (by first | assumption | exact (addQ_I64 _ _ _ _).1 | exact (addQ_I64 _ _ _ _).2 | exact (mulQ_I64 _ _ _ _).1 | exact (mulQ_I64 _ _ _ _).2 | exact (subQ_I64 _ _ _ _).1 | exact (subQ_I64 _ _ _ _).2) (by first | assumption | exact (addQ_I64 _ _ _ _).1 | exact (addQ_I64 _ _ _ _).2 | exact (mulQ_I64 _ _ _ _).1 | exact (mulQ_I64 _ _ _ _).2 | exact (subQ_I64 _ _ _ _).1 | exact (subQ_I64 _ _ _ _).2) fun w54 hf => ?_; have m := m.fr hf
  intro w57; have m : Mem w w57 _ := m.allocL; clear_value w57
  refine ⟨m.wr 0 rfl rfl, ?_⟩
  intro w58; have m : Mem w w58 _ := m.set 0 rfl; clear_value w58; simp only [List.set_cons_zero] at m
  refine ⟨m.wr 0 rfl rfl, ?_⟩
  intro w59; have m : Mem w w59 _ := m.set 0 rfl; clear_value w59; simp only [List.set_cons_zero, List.set_cons_succ] at m
  refine ⟨_, m.ld 4 rfl rfl, ?_⟩
  refine ⟨_, m.ld 4 rfl rfl, ?_⟩
  refine ⟨_, m.ld 5 rfl rfl, ?_⟩
  refine ⟨_, m.ld 5 rfl rfl, ?_⟩
  refine Mul_s (by first | assumption | exact (addQ_I64 _ _ _ _).1 | exact (addQ_I64 _ _ _ _).2 | exact (mulQ_I64 _ _ _ _).1 | exact (mulQ_I64 _ _ _ _).2 | exact (subQ_I64 _ _ _ _).1 | exact (subQ_I64 _ _ _ _).2) (by first | assumption | exact (addQ_I64 _ _ _ _).1 | exact (addQ_I64 _ _ _ _).2 | exact (mulQ_I64 _ _ _ _).1 | exact (mulQ_I64 _ _ _ _).2 | exact (subQ_I64 _ _ _ _).1 | exact (subQ_I64 _ _ _ _).2) (by first | assumption | exact (addQ_I64 _ _ _ _).1 | exact (addQ_I64 _ _ _ _).2 | exact (mulQ_I64 _ _ _ _).1 | exact (mulQ_I64 _ _ _ _).2 | exact (subQ_I64 _ _ _ _).1 | exact (subQ_I64 _ _ _ _).2) (by first | assumption | exact (addQ_I64 _ _ _ _).1 | exact (addQ_I64 _ _ _ _).2 | exact (mulQ_I64 _ _ _ _).1 | exact (mulQ_I64 _ _ _ _).2 | exact (subQ_I64 _ _ _ _).1 | exact (subQ_I64 _ _ _ _).2) fun w64 hf => ?_; have m := m.fr hf
  intro w67; have m : Mem w w67 _ := m.allocL; clear_value w67
  refine ⟨m.wr 0 rfl rfl, ?_⟩
  intro w68; have m : Mem w w68 _ := m.set 0 rfl; clear_value w68; simp only [List.set_cons_zero] at m
  refine ⟨m.wr 0 rfl rfl, ?_⟩
  intro w69; have m : Mem w w69 _ := m.set 0 rfl; clear_value w69; simp only [List.set_cons_zero, List.set_cons_succ] at m
  refine ⟨_, m.ld 3 rfl rfl, ?_⟩
  refine ⟨_, m.ld 3 rfl rfl, ?_⟩
  refine ⟨_, m.ld 2 rfl rfl, ?_⟩
  refine ⟨_, m.ld 2 rfl rfl, ?_⟩
  refine same_spec fun w74 hf => ?_; have m := m.fr hf
  rw [sameB_iff.2 (addQ_comm n1 d1 n2 d2), Bool.not_true, cnd_false]
  refine ⟨_, m.ld 1 rfl rfl, ?_⟩
  refine ⟨_, m.ld 1 rfl rfl, ?_⟩
  refine ⟨_, m.ld 0 rfl rfl, ?_⟩
  refine ⟨_, m.ld 0 rfl rfl, ?_⟩
  refine same_spec fun w80 hf => ?_; have m := m.fr hf
  rw [sameB_iff.2 (mulQ_comm n1 d1 n2 d2), Bool.not_true, cnd_false]
  refine ⟨_, m.ld 3 rfl rfl, ?_⟩
  refine ⟨_, m.ld 3 rfl rfl, ?_⟩
  refine ⟨_, m.ld 5 rfl rfl, ?_⟩
  refine ⟨_, m.ld 5 rfl rfl, ?_⟩
  refine Sub_s (by first | assumption | exact (addQ_I64 _ _ _ _).1 | exact (addQ_I64 _ _ _ _).2 | exact (mulQ_I64 _ _ _ _).1 | exact (mulQ_I64 _ _ _ _).2 | exact (subQ_I64 _ _ _ _).1 | exact (subQ_I64 _ _ _ _).2) (by first | assumption | exact (addQ_I64 _ _ _ _).1 | exact (addQ_I64 _ _ _ _).2 | exact (mulQ_I64 _ _ _ _).1 | exact (mulQ_I64 _ _ _ _).2 | exact (subQ_I64 _ _ _ _).1 | exact (subQ_I64 _ _ _ _).2) (by first | assumption | exact (addQ_I64 _ _ _ _).1 | exact (addQ_I64 _ _ _ _).2 | exact (mulQ_I64 _ _ _ _).1 | exact (mulQ_I64 _ _ _ _).2 | exact (subQ_I64 _ _ _ _).1 | exact (subQ_I64 _ _ _ _).2) (by first | assumption | exact (addQ_I64 _ _ _ _).1 | exact (addQ_I64 _ _ _ _).2 | exact (mulQ_I64 _ _ _ _).1 | exact (mulQ_I64 _ _ _ _).2 | exact (subQ_I64 _ _ _ _).1 | exact (subQ_I64 _ _ _ _).2) fun w86 hf => ?_; have m := m.fr hf
  intro w89; have m : Mem w w89 _ := m.allocL; clear_value w89
  refine ⟨m.wr 0 rfl rfl, ?_⟩
  intro w90; have m : Mem w w90 _ := m.set 0 rfl; clear_value w90; simp only [List.set_cons_zero] at m
  refine ⟨m.wr 0 rfl rfl, ?_⟩
  intro w91; have m : Mem w w91 _ := m.set 0 rfl; clear_value w91; simp only [List.set_cons_zero, List.set_cons_succ] at m
  refine cnd_iff.2 ⟨fun hc3 => ?_, fun hc3 => ?_⟩
  · refine cnd_iff.2 ⟨fun hc4 => ?_, fun hc4 => ?_⟩
    · exact absurd hc4 (by rw [back_q hr1 hr2 hn1 hd1 hc3]; simp)
    · refine ⟨_, m.ld 0 rfl rfl, ?_⟩
      refine ⟨_, m.ld 0 rfl rfl, ?_⟩
      refine ⟨_, m.ld 7 rfl rfl, ?_⟩
      refine ⟨_, m.ld 7 rfl rfl, ?_⟩
      refine cnd_iff.2 ⟨fun hc5 => ?_, fun hc5 => ?_⟩
      · exact absurd hc5 (by rw [back_q hr1 hr2 hn1 hd1 hc3]; simp)
      · exact Field_k0 hr1 hr2 hr3 hn1 hd1 hn2 hd2 hn3 hd3 m hK
  · exact Field_k0 hr1 hr2 hr3 hn1 hd1 hn2 hd2 hn3 hd3 m hK
end
end Go.Proofs.YtfclokkfnkieoaaDoor