/- The law RatioFloor: its contract. Conditions: none. -/
import Derived.Test.YtfclokkfnkieoaaDoorRQ1
import Derived.Test.YtfclokkfnkieoaaDoorRG3
namespace Go.Proofs.YtfclokkfnkieoaaDoor
open Go Pw

theorem floor_facts {n d : Int} (h : rightP n d) (hn : I64 n) (hd : I64 d) : I64 (floorQ n d) ∧ floorQ n d = n / d ∧ cmpQ (floorQ n d) 1 n d ≤ 0 := by
  have e : floorQ n d = n / d := by unfold floorQ; rw [if_pos h]
  refine ⟨?_, e, by rw [e]; exact floor_cmp h⟩
  rw [e]
  have hpos := h.1
  have a1 := hn.1
  have a2 := hn.2
  constructor
  · rw [Int.le_ediv_iff_mul_le hpos]
    have : -9223372036854775808 * d ≤ -9223372036854775808 * 1 := Int.mul_le_mul_of_nonpos_left (by omega) (by omega)
    omega
  · rcases Int.lt_or_le n 0 with hh | hh
    · have := Int.ediv_neg_of_neg_of_pos hh hpos; omega
    · have := Int.ediv_le_self d hh; omega

section
variable {w w0 : World}

theorem RatioFloor_k0 {n d : Int} {a dd : Nat} {l : List (Nat × List Value)} {K : Bool → World → Prop} (hr : rightP n d) (hn : I64 n) (hd : I64 d) (m : Mem w0 w l) (ja jd : Nat)
    (ha : l[ja]? = some (a, [.int .i64 n, .int .i64 d])) (hdd : l[jd]? = some (dd, [.int .i64 (subQ n d (floorQ n d) 1).n, .int .i64 (subQ n d (floorQ n d) 1).d])) (hK : ∀ w', Fr F0 w0 w' → K true w') :
    probitylaw01_RatioFloor_k0 true ⟨a, 0, none⟩ (floorQ n d) ⟨dd, 0, none⟩ (subQ n d (floorQ n d) 1).ok K w := by
  obtain ⟨f1, f2, f3⟩ := floor_facts hr hn hd
  have e : subQ n d (floorQ n d) 1 = ⟨n % d, d, true⟩ := by rw [f2]; exact floor_sub hr hd
  have e1 := Int.emod_nonneg n (show d ≠ 0 by have := hr.1; omega)
  have e2 := Int.emod_lt_of_pos n hr.1
  rw [e] at hdd ⊢
  refine ⟨?_⟩
  unfold probitylaw01_RatioFloor_k0d
  intro w42; have m : Mem w0 w42 _ := m.drew; clear_value w42
  refine ⟨fun u => Rs u _, m.sub 0 rfl, ?_⟩
  rw [cnd_true]
  refine ⟨_, fun _ h => h.ld ja ha rfl, ?_⟩
  refine ⟨_, fun _ h => h.ld ja ha rfl, ?_⟩
  refine Of_spec fun w46 hf => ?_; have m := m.fr hf
  refine ⟨m.sub 0 rfl, ?_⟩
  refine Cmp_spec f1 (i64 rfl) hn hd fun w48 hf => ?_; have m := m.fr hf
  refine ⟨m.sub 0 rfl, ?_⟩
  rw [decide_eq_true f3, cnd_true, cnd_true]
  refine ⟨_, fun _ h => h.ld jd hdd rfl, ?_⟩
  rw [decide_eq_true (show n % d ≥ 0 from e1), cnd_true]
  refine ⟨_, fun _ h => h.ld jd hdd rfl, ?_⟩
  refine ⟨_, fun _ h => h.ld jd hdd rfl, ?_⟩
  rw [decide_eq_true e2]
  exact hK _ m.1

theorem Floor_law {p q r : Int} {K : Bool → World → Prop} (g : Gl w) (hp : I64 p ∧ I64 q ∧ I64 r) (hK : ∀ w', Fr F0 w w' → K true w') : probitylaw01_RatioFloor_sh p q r K w := by
  refine ⟨?_⟩
  unfold probitylaw01_RatioFloor_sd
  have m : Mem w w [] := Mem.nil
  intro w1; have m : Mem w w1 _ := m.allocL; clear_value w1
  refine sanity_spec (g.fr m.1) fun w2 hf => ?_; have m := m.fr hf
  refine ⟨_, m.ld 0 rfl rfl, ?_⟩
  refine ⟨_, m.ld 0 rfl rfl, ?_⟩
  refine ⟨_, m.ld 0 rfl rfl, ?_⟩
  refine Made_spec hp.1 hp.2.1 hp.2.2 fun n d w7 hr hn hd hf => ?_; have m := m.fr hf; obtain ⟨f1, f2, f3⟩ := floor_facts hr hn hd
  intro w9; have m : Mem w w9 _ := m.allocL; clear_value w9
  refine ⟨m.wr 0 rfl rfl, ?_⟩
  intro w10; have m : Mem w w10 _ := m.set 0 rfl; clear_value w10; simp only [List.set_cons_zero] at m
  refine ⟨m.wr 0 rfl rfl, ?_⟩
  intro w11; have m : Mem w w11 _ := m.set 0 rfl; clear_value w11; simp only [List.set_cons_zero, List.set_cons_succ] at m
  refine ⟨_, m.ld 0 rfl rfl, ?_⟩
  refine ⟨_, m.ld 0 rfl rfl, ?_⟩
  refine Floor_spec hn hd fun w14 hf => ?_; have m := m.fr hf
  intro w16; have m : Mem w w16 _ := m.drew; clear_value w16
  refine ⟨fun u => Rs u _, m.sub 0 rfl, ?_⟩
  refine ⟨_, fun _ h => h.ld 0 rfl rfl, ?_⟩
  refine ⟨_, fun _ h => h.ld 0 rfl rfl, ?_⟩
  refine ⟨?_, ?_⟩
  · refine Of_spec fun w20 hf => ?_; have m := m.fr hf
    refine ⟨m.sub 0 rfl, ?_⟩
    refine ⟨?_, ?_⟩
    · refine Sub_spec hn hd f1 (i64 rfl) fun w22 hf => ?_; have m := m.fr hf
      refine ⟨m.sub 0 rfl, ?_⟩
      intro w25; have m : Mem w w25 _ := m.allocL; clear_value w25
      refine ⟨m.sub 1 rfl, ?_⟩
      refine ⟨m.wr 0 rfl rfl, ?_⟩
      intro w26; have m : Mem w w26 _ := m.set 0 rfl; clear_value w26; simp only [List.set_cons_zero] at m
      refine ⟨m.wr 0 rfl rfl, ?_⟩
      intro w27; have m : Mem w w27 _ := m.set 0 rfl; clear_value w27; simp only [List.set_cons_zero, List.set_cons_succ] at m
      first | exact RatioFloor_k0 hr hn hd m 1 0 rfl rfl hK | exact RatioFloor_k0 hr hn hd m 0 1 rfl rfl hK
    · intro w28; have m : Mem w w28 _ := m.allocL; clear_value w28
      refine ⟨m.sub 1 rfl, ?_⟩
      refine Sub_spec hn hd f1 (i64 rfl) fun w29 hf => ?_; have m := m.fr hf
      refine ⟨m.wr 0 rfl rfl, ?_⟩
      intro w32; have m : Mem w w32 _ := m.set 0 rfl; clear_value w32; simp only [List.set_cons_zero] at m
      refine ⟨m.wr 0 rfl rfl, ?_⟩
      intro w33; have m : Mem w w33 _ := m.set 0 rfl; clear_value w33; simp only [List.set_cons_zero, List.set_cons_succ] at m
      first | exact RatioFloor_k0 hr hn hd m 1 0 rfl rfl hK | exact RatioFloor_k0 hr hn hd m 0 1 rfl rfl hK
  · intro w34; have m : Mem w w34 _ := m.allocL; clear_value w34
    refine ⟨m.sub 1 rfl, ?_⟩
    refine Of_spec fun w35 hf => ?_; have m := m.fr hf
    refine ⟨m.sub 1 rfl, ?_⟩
    refine Sub_spec hn hd f1 (i64 rfl) fun w37 hf => ?_; have m := m.fr hf
    refine ⟨m.wr 0 rfl rfl, ?_⟩
    intro w40; have m : Mem w w40 _ := m.set 0 rfl; clear_value w40; simp only [List.set_cons_zero] at m
    refine ⟨m.wr 0 rfl rfl, ?_⟩
    intro w41; have m : Mem w w41 _ := m.set 0 rfl; clear_value w41; simp only [List.set_cons_zero, List.set_cons_succ] at m
    first | exact RatioFloor_k0 hr hn hd m 1 0 rfl rfl hK | exact RatioFloor_k0 hr hn hd m 0 1 rfl rfl hK
end
end Go.Proofs.YtfclokkfnkieoaaDoor
