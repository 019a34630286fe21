/- The laws RatioSums and RatioRaw: their contracts. Conditions: none. -/
import Derived.Test.YtfclokkfnkieoaaGreatDoorRZA
import Derived.Test.YtfclokkfnkieoaaGreatDoorRL1
import Derived.Test.YtfclokkfnkieoaaGreatDoorRQ1
import Derived.Test.YtfclokkfnkieoaaGreatDoorRG3
namespace Go.Proofs.YtfclokkfnkieoaaGreatDoor
open Go Pw

theorem sameB_self (r : RR) : sameB r.n r.d r.ok r.n r.d r.ok = true := sameB_iff.2 rfl

section
variable {w w' w0 : World}

theorem agrees_k0 {n d n' d' : Int} {a b : Nat} {l : List (Nat × List Value)} {K : Bool → World → Prop} (m : Mem w0 w l) (j1 j2 : Nat) (h1 : l[j1]? = some (a, [.int .i64 n, .int .i64 d])) (h2 : l[j2]? = some (b, [.int .i64 n', .int .i64 d']))
    (g : Gl w0) (hn : I64 n) (hd : I64 d) (hn' : I64 n') (hd' : I64 d') (hK : ∀ w', Fr F0 w0 w' → K true w') : probitylaw01_agrees_k0 ⟨a, 0, none⟩ ⟨b, 0, none⟩ true K w := by
  refine ⟨?_⟩
  unfold probitylaw01_agrees_k0d
  intro w107; have m : Mem w0 w107 _ := m.drew; clear_value w107
  refine ⟨fun u => Rs u _, m.sub 0 rfl, ?_⟩
  rw [cnd_true]
  refine ⟨_, fun _ h => h.ld j1 h1 rfl, ?_⟩
  refine ⟨_, fun _ h => h.ld j1 h1 rfl, ?_⟩
  refine ⟨_, fun _ h => h.ld j2 h2 rfl, ?_⟩
  refine ⟨_, fun _ h => h.ld j2 h2 rfl, ?_⟩
  refine ⟨_, fun _ h => h.ld j1 h1 rfl, ?_⟩
  refine ⟨_, fun _ h => h.ld j1 h1 rfl, ?_⟩
  refine ⟨_, fun _ h => h.ld j2 h2 rfl, ?_⟩
  refine ⟨_, fun _ h => h.ld j2 h2 rfl, ?_⟩
  refine Cmp_spec hn hd hn' hd' fun w117 hf => ?_; have m := m.fr hf
  refine ⟨m.sub 0 rfl, ?_⟩
  refine rCmp_spec hn hd hn' hd' fun w119 hf => ?_; have m := m.fr hf
  refine ⟨m.sub 0 rfl, ?_⟩
  rw [beq_self_eq_true, cnd_true]
  refine ⟨_, fun _ h => h.ld j1 h1 rfl, ?_⟩
  refine ⟨_, fun _ h => h.ld j1 h1 rfl, ?_⟩
  refine ⟨_, fun _ h => h.ld j1 h1 rfl, ?_⟩
  refine ⟨_, fun _ h => h.ld j1 h1 rfl, ?_⟩
  refine Right_spec hn hd fun w125 hf => ?_; have m := m.fr hf
  refine ⟨m.sub 0 rfl, ?_⟩
  refine rRight_spec hn hd fun w127 hf => ?_; have m := m.fr hf
  refine ⟨m.sub 0 rfl, ?_⟩
  rw [beq_self_eq_true, cnd_true]
  refine ⟨_, fun _ h => h.ld j1 h1 rfl, ?_⟩
  refine ⟨_, fun _ h => h.ld j1 h1 rfl, ?_⟩
  refine ⟨_, fun _ h => h.ld j1 h1 rfl, ?_⟩
  refine ⟨_, fun _ h => h.ld j1 h1 rfl, ?_⟩
  refine Floor_spec hn hd fun w133 hf => ?_; have m := m.fr hf
  refine ⟨m.sub 0 rfl, ?_⟩
  refine rFloor_spec hn hd fun w135 hf => ?_; have m := m.fr hf
  refine ⟨m.sub 0 rfl, ?_⟩
  rw [beq_self_eq_true, cnd_true]
  refine ⟨_, fun _ h => h.ld j1 h1 rfl, ?_⟩
  refine ⟨_, fun _ h => h.ld j1 h1 rfl, ?_⟩
  refine ⟨_, fun _ h => h.ld j1 h1 rfl, ?_⟩
  refine ⟨_, fun _ h => h.ld j1 h1 rfl, ?_⟩
  refine Text_spec hn hd (g.fr m.1) fun w141 hf => ?_; have m := m.fr hf
  refine ⟨m.sub 0 rfl, ?_⟩
  refine rText_spec hn hd fun w143 hf => ?_; have m := m.fr hf
  refine ⟨m.sub 0 rfl, ?_⟩
  rw [decide_eq_true rfl]; exact hK _ m.1

theorem agrees_spec {n d n' d' : Int} {K : Bool → World → Prop} (g : Gl w) (hn : I64 n) (hd : I64 d) (hn' : I64 n') (hd' : I64 d') (hK : ∀ w', Fr F0 w w' → K true w') : probitylaw01_agrees_sh n d n' d' K w := by
  refine ⟨?_⟩
  unfold probitylaw01_agrees_sd
  have m : Mem w w [] := Mem.nil
  intro w1; have m : Mem w w1 _ := m.allocL; clear_value w1
  intro w2; have m : Mem w w2 _ := m.allocL; clear_value w2
  refine ⟨_, m.ld 1 rfl rfl, ?_⟩
  refine ⟨_, m.ld 1 rfl rfl, ?_⟩
  refine ⟨_, m.ld 0 rfl rfl, ?_⟩
  refine ⟨_, m.ld 0 rfl rfl, ?_⟩
  refine Add_s hn hd hn' hd' fun w7 hf => ?_; have m := m.fr hf
  intro w10; have m : Mem w w10 _ := m.allocL; clear_value w10
  refine ⟨m.wr 0 rfl rfl, ?_⟩
  intro w11; have m : Mem w w11 _ := m.set 0 rfl; clear_value w11; simp only [List.set_cons_zero] at m
  refine ⟨m.wr 0 rfl rfl, ?_⟩
  intro w12; have m : Mem w w12 _ := m.set 0 rfl; clear_value w12; simp only [List.set_cons_zero, List.set_cons_succ] at m
  refine ⟨_, m.ld 2 rfl rfl, ?_⟩
  refine ⟨_, m.ld 2 rfl rfl, ?_⟩
  refine ⟨_, m.ld 1 rfl rfl, ?_⟩
  refine ⟨_, m.ld 1 rfl rfl, ?_⟩
  refine rAdd_spec hn hd hn' hd' fun w17 hf => ?_; have m := m.fr hf
  intro w20; have m : Mem w w20 _ := m.allocL; clear_value w20
  refine ⟨m.wr 0 rfl rfl, ?_⟩
  intro w21; have m : Mem w w21 _ := m.set 0 rfl; clear_value w21; simp only [List.set_cons_zero] at m
  refine ⟨m.wr 0 rfl rfl, ?_⟩
  intro w22; have m : Mem w w22 _ := m.set 0 rfl; clear_value w22; simp only [List.set_cons_zero, List.set_cons_succ] at m
  refine ⟨_, m.ld 3 rfl rfl, ?_⟩
  refine ⟨_, m.ld 3 rfl rfl, ?_⟩
  refine ⟨_, m.ld 2 rfl rfl, ?_⟩
  refine ⟨_, m.ld 2 rfl rfl, ?_⟩
  refine Sub_s hn hd hn' hd' fun w27 hf => ?_; have m := m.fr hf
  intro w30; have m : Mem w w30 _ := m.allocL; clear_value w30
  refine ⟨m.wr 0 rfl rfl, ?_⟩
  intro w31; have m : Mem w w31 _ := m.set 0 rfl; clear_value w31; simp only [List.set_cons_zero] at m
  refine ⟨m.wr 0 rfl rfl, ?_⟩
  intro w32; have m : Mem w w32 _ := m.set 0 rfl; clear_value w32; simp only [List.set_cons_zero, List.set_cons_succ] at m
  refine ⟨_, m.ld 4 rfl rfl, ?_⟩
  refine ⟨_, m.ld 4 rfl rfl, ?_⟩
  refine ⟨_, m.ld 3 rfl rfl, ?_⟩
  refine ⟨_, m.ld 3 rfl rfl, ?_⟩
  refine rSub_spec hn hd hn' hd' fun w37 hf => ?_; have m := m.fr hf
  intro w40; have m : Mem w w40 _ := m.allocL; clear_value w40
  refine ⟨m.wr 0 rfl rfl, ?_⟩
  intro w41; have m : Mem w w41 _ := m.set 0 rfl; clear_value w41; simp only [List.set_cons_zero] at m
  refine ⟨m.wr 0 rfl rfl, ?_⟩
  intro w42; have m : Mem w w42 _ := m.set 0 rfl; clear_value w42; simp only [List.set_cons_zero, List.set_cons_succ] at m
  refine ⟨_, m.ld 5 rfl rfl, ?_⟩
  refine ⟨_, m.ld 5 rfl rfl, ?_⟩
  refine ⟨_, m.ld 4 rfl rfl, ?_⟩
  refine ⟨_, m.ld 4 rfl rfl, ?_⟩
  refine Mul_s hn hd hn' hd' fun w47 hf => ?_; have m := m.fr hf
  intro w50; have m : Mem w w50 _ := m.allocL; clear_value w50
  refine ⟨m.wr 0 rfl rfl, ?_⟩
  intro w51; have m : Mem w w51 _ := m.set 0 rfl; clear_value w51; simp only [List.set_cons_zero] at m
  refine ⟨m.wr 0 rfl rfl, ?_⟩
  intro w52; have m : Mem w w52 _ := m.set 0 rfl; clear_value w52; simp only [List.set_cons_zero, List.set_cons_succ] at m
  refine ⟨_, m.ld 6 rfl rfl, ?_⟩
  refine ⟨_, m.ld 6 rfl rfl, ?_⟩
  refine ⟨_, m.ld 5 rfl rfl, ?_⟩
  refine ⟨_, m.ld 5 rfl rfl, ?_⟩
  refine rMul_spec hn hd hn' hd' fun w57 hf => ?_; have m := m.fr hf
  intro w60; have m : Mem w w60 _ := m.allocL; clear_value w60
  refine ⟨m.wr 0 rfl rfl, ?_⟩
  intro w61; have m : Mem w w61 _ := m.set 0 rfl; clear_value w61; simp only [List.set_cons_zero] at m
  refine ⟨m.wr 0 rfl rfl, ?_⟩
  intro w62; have m : Mem w w62 _ := m.set 0 rfl; clear_value w62; simp only [List.set_cons_zero, List.set_cons_succ] at m
  refine ⟨_, m.ld 7 rfl rfl, ?_⟩
  refine ⟨_, m.ld 7 rfl rfl, ?_⟩
  refine ⟨_, m.ld 6 rfl rfl, ?_⟩
  refine ⟨_, m.ld 6 rfl rfl, ?_⟩
  refine Quo_s hn hd hn' hd' fun w67 hf => ?_; have m := m.fr hf
  intro w70; have m : Mem w w70 _ := m.allocL; clear_value w70
  refine ⟨m.wr 0 rfl rfl, ?_⟩
  intro w71; have m : Mem w w71 _ := m.set 0 rfl; clear_value w71; simp only [List.set_cons_zero] at m
  refine ⟨m.wr 0 rfl rfl, ?_⟩
  intro w72; have m : Mem w w72 _ := m.set 0 rfl; clear_value w72; simp only [List.set_cons_zero, List.set_cons_succ] at m
  refine ⟨_, m.ld 8 rfl rfl, ?_⟩
  refine ⟨_, m.ld 8 rfl rfl, ?_⟩
  refine ⟨_, m.ld 7 rfl rfl, ?_⟩
  refine ⟨_, m.ld 7 rfl rfl, ?_⟩
  refine rQuo_spec hn hd hn' hd' fun w77 hf => ?_; have m := m.fr hf
  intro w80; have m : Mem w w80 _ := m.allocL; clear_value w80
  refine ⟨m.wr 0 rfl rfl, ?_⟩
  intro w81; have m : Mem w w81 _ := m.set 0 rfl; clear_value w81; simp only [List.set_cons_zero] at m
  refine ⟨m.wr 0 rfl rfl, ?_⟩
  intro w82; have m : Mem w w82 _ := m.set 0 rfl; clear_value w82; simp only [List.set_cons_zero, List.set_cons_succ] at m
  refine ⟨_, m.ld 7 rfl rfl, ?_⟩
  refine ⟨_, m.ld 7 rfl rfl, ?_⟩
  refine ⟨_, m.ld 6 rfl rfl, ?_⟩
  refine ⟨_, m.ld 6 rfl rfl, ?_⟩
  refine same_spec fun w87 hf => ?_; have m := m.fr hf
  rw [sameB_self, cnd_true]
  refine ⟨_, m.ld 5 rfl rfl, ?_⟩
  refine ⟨_, m.ld 5 rfl rfl, ?_⟩
  refine ⟨_, m.ld 4 rfl rfl, ?_⟩
  refine ⟨_, m.ld 4 rfl rfl, ?_⟩
  refine same_spec fun w93 hf => ?_; have m := m.fr hf
  rw [sameB_self, cnd_true]
  refine ⟨_, m.ld 3 rfl rfl, ?_⟩
  refine ⟨_, m.ld 3 rfl rfl, ?_⟩
  refine ⟨_, m.ld 2 rfl rfl, ?_⟩
  refine ⟨_, m.ld 2 rfl rfl, ?_⟩
  refine same_spec fun w99 hf => ?_; have m := m.fr hf
  rw [sameB_self, cnd_true]
  refine ⟨_, m.ld 1 rfl rfl, ?_⟩
  refine ⟨_, m.ld 1 rfl rfl, ?_⟩
  refine ⟨_, m.ld 0 rfl rfl, ?_⟩
  refine ⟨_, m.ld 0 rfl rfl, ?_⟩
  refine same_spec fun w105 hf => ?_; have m := m.fr hf
  rw [sameB_self]; exact agrees_k0 m 9 8 rfl rfl g hn hd hn' hd' hK

theorem Sums_law {p0 p1 p2 q0 q1 q2 : Int} {K : Bool → World → Prop} (g : Gl w) (hp : I64 p0 ∧ I64 p1 ∧ I64 p2) (hq : I64 q0 ∧ I64 q1 ∧ I64 q2) (hK : ∀ w', Fr F0 w w' → K true w') : probitylaw01_RatioSums_sh p0 p1 p2 q0 q1 q2 K w := by
  refine ⟨?_⟩
  unfold probitylaw01_RatioSums_sd
  obtain ⟨hp0, hp1, hp2⟩ := hp
  obtain ⟨hq0, hq1, hq2⟩ := hq
  have m : Mem w w [] := Mem.nil
  intro w1; have m : Mem w w1 _ := m.allocL; clear_value w1
  intro w2; have m : Mem w w2 _ := m.allocL; clear_value w2
  refine sanity_spec (g.fr m.1) fun w3 hf => ?_; have m := m.fr hf
  refine ⟨_, m.ld 1 rfl rfl, ?_⟩
  refine ⟨_, m.ld 1 rfl rfl, ?_⟩
  refine ⟨_, m.ld 1 rfl rfl, ?_⟩
  refine Made_spec (by assumption) (by assumption) (by assumption) fun a1 b1 w8 hr1 hn1 hd1 hf => ?_; have m := m.fr hf
  intro w10; have m : Mem w w10 _ := m.allocL; clear_value w10
  refine ⟨m.wr 0 rfl rfl, ?_⟩
  intro w11; have m : Mem w w11 _ := m.set 0 rfl; clear_value w11; simp only [List.set_cons_zero] at m
  refine ⟨m.wr 0 rfl rfl, ?_⟩
  intro w12; have m : Mem w w12 _ := m.set 0 rfl; clear_value w12; simp only [List.set_cons_zero, List.set_cons_succ] at m
  refine ⟨_, m.ld 1 rfl rfl, ?_⟩
  refine ⟨_, m.ld 1 rfl rfl, ?_⟩
  refine ⟨_, m.ld 1 rfl rfl, ?_⟩
  refine Made_spec (by assumption) (by assumption) (by assumption) fun a2 b2 w16 hr2 hn2 hd2 hf => ?_; have m := m.fr hf
  intro w18; have m : Mem w w18 _ := m.allocL; clear_value w18
  refine ⟨m.wr 0 rfl rfl, ?_⟩
  intro w19; have m : Mem w w19 _ := m.set 0 rfl; clear_value w19; simp only [List.set_cons_zero] at m
  refine ⟨m.wr 0 rfl rfl, ?_⟩
  intro w20; have m : Mem w w20 _ := m.set 0 rfl; clear_value w20; simp only [List.set_cons_zero, List.set_cons_succ] at m
  refine ⟨_, m.ld 1 rfl rfl, ?_⟩
  refine ⟨_, m.ld 1 rfl rfl, ?_⟩
  refine ⟨_, m.ld 0 rfl rfl, ?_⟩
  refine ⟨_, m.ld 0 rfl rfl, ?_⟩
  refine agrees_spec (g.fr m.1) (by assumption) (by assumption) (by assumption) (by assumption) fun w25 hf => ?_; have m := m.fr hf
  refine ⟨_, m.ld 0 rfl rfl, ?_⟩
  refine ⟨_, m.ld 0 rfl rfl, ?_⟩
  refine ⟨_, m.ld 1 rfl rfl, ?_⟩
  refine ⟨_, m.ld 1 rfl rfl, ?_⟩
  refine agrees_spec (g.fr m.1) (by assumption) (by assumption) (by assumption) (by assumption) fun w31 hf => ?_; have m := m.fr hf
  refine ⟨_, m.ld 1 rfl rfl, ?_⟩
  refine ⟨_, m.ld 1 rfl rfl, ?_⟩
  refine ⟨_, m.ld 1 rfl rfl, ?_⟩
  refine ⟨_, m.ld 1 rfl rfl, ?_⟩
  refine agrees_spec (g.fr m.1) (by assumption) (by assumption) (by assumption) (by assumption) fun w37 hf => ?_; have m := m.fr hf
  rw [cnd_true]
  rw [cnd_true]
  rw [cnd_true]
  exact hK _ m.1

theorem Raw_law {n d n' d' q0 q1 q2 : Int} {K : Bool → World → Prop} (g : Gl w) (hn : I64 n) (hd : I64 d) (hn' : I64 n') (hd' : I64 d') (hq : I64 q0 ∧ I64 q1 ∧ I64 q2) (hK : ∀ w', Fr F0 w w' → K true w') : probitylaw01_RatioRaw_sh n d n' d' q0 q1 q2 K w := by
  refine ⟨?_⟩
  unfold probitylaw01_RatioRaw_sd
  obtain ⟨hq0, hq1, hq2⟩ := hq
  have m : Mem w w [] := Mem.nil
  intro w1; have m : Mem w w1 _ := m.allocL; clear_value w1
  intro w2; have m : Mem w w2 _ := m.allocL; clear_value w2
  intro w3; have m : Mem w w3 _ := m.allocL; clear_value w3
  refine sanity_spec (g.fr m.1) fun w4 hf => ?_; have m := m.fr hf
  refine ⟨_, m.ld 0 rfl rfl, ?_⟩
  refine ⟨_, m.ld 0 rfl rfl, ?_⟩
  refine ⟨_, m.ld 0 rfl rfl, ?_⟩
  refine Made_spec (by assumption) (by assumption) (by assumption) fun a1 b1 w9 hr1 hn1 hd1 hf => ?_; have m := m.fr hf
  intro w11; have m : Mem w w11 _ := m.allocL; clear_value w11
  refine ⟨m.wr 0 rfl rfl, ?_⟩
  intro w12; have m : Mem w w12 _ := m.set 0 rfl; clear_value w12; simp only [List.set_cons_zero] at m
  refine ⟨m.wr 0 rfl rfl, ?_⟩
  intro w13; have m : Mem w w13 _ := m.set 0 rfl; clear_value w13; simp only [List.set_cons_zero, List.set_cons_succ] at m
  refine ⟨_, m.ld 3 rfl rfl, ?_⟩
  refine ⟨_, m.ld 3 rfl rfl, ?_⟩
  refine ⟨_, m.ld 2 rfl rfl, ?_⟩
  refine ⟨_, m.ld 2 rfl rfl, ?_⟩
  refine agrees_spec (g.fr m.1) (by assumption) (by assumption) (by assumption) (by assumption) fun w18 hf => ?_; have m := m.fr hf
  refine ⟨_, m.ld 3 rfl rfl, ?_⟩
  refine ⟨_, m.ld 3 rfl rfl, ?_⟩
  refine ⟨_, m.ld 0 rfl rfl, ?_⟩
  refine ⟨_, m.ld 0 rfl rfl, ?_⟩
  refine agrees_spec (g.fr m.1) (by assumption) (by assumption) (by assumption) (by assumption) fun w24 hf => ?_; have m := m.fr hf
  refine ⟨_, m.ld 0 rfl rfl, ?_⟩
  refine ⟨_, m.ld 0 rfl rfl, ?_⟩
  refine ⟨_, m.ld 2 rfl rfl, ?_⟩
  refine ⟨_, m.ld 2 rfl rfl, ?_⟩
  refine agrees_spec (g.fr m.1) (by assumption) (by assumption) (by assumption) (by assumption) fun w30 hf => ?_; have m := m.fr hf
  rw [cnd_true]
  rw [cnd_true]
  rw [cnd_true]
  exact hK _ m.1
end
end Go.Proofs.YtfclokkfnkieoaaGreatDoor
