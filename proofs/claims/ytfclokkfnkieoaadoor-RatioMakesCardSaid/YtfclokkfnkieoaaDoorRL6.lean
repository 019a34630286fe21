/- The law RatioMakes: its contract. Conditions: none. -/
import Derived.Test.YtfclokkfnkieoaaDoorRQ1
import Derived.Test.YtfclokkfnkieoaaDoorRG3
namespace Go.Proofs.YtfclokkfnkieoaaDoor
open Go Pw

theorem makes_quo (x y : Int) : makeQ x y = quoQ x 1 y 1 := by
  unfold makeQ quoQ
  rw [if_pos (⟨rI x, rI y⟩ : rightP x 1 ∧ rightP y 1)]
  by_cases h : y = 0
  · rw [if_pos h, if_pos h]
  · rw [if_neg h, if_neg h]
    congr 1
    rw [Rat.div_def, val_div (by decide), val_div (by decide), Rat.inv_divInt, Rat.divInt_mul_divInt, Int.mul_one, Int.one_mul]

theorem Mem.one {w0 w : World} {b : Nat} {cs : List Value} (hf : Fr F0 w0 w) (hr : Row w b cs) (hb : w0.heap.size ≤ b) : Mem w0 w [(b, cs)] := by
  refine ⟨hf, fun p hp => ?_, by simp, fun p hp => ?_⟩
  · simp only [List.mem_singleton] at hp
    subst hp
    exact hr
  · simp only [List.mem_singleton] at hp
    subst hp
    exact hb

section
variable {w w0 : World}

theorem Makes_k3 {n x y i : Int} {ball ba bb bc : Nat} {cells : List Value} {N0 : Int → Bool → Addr → Int → World → Prop} {K : Bool → World → Prop} (hi : 0 ≤ i ∧ i < ((3 : Nat) : Int))
    (m : Mem w0 w [(bc, [.int .i64 (quoQ x 1 y 1).n, .int .i64 (quoQ x 1 y 1).d]), (bb, [.int .i64 (makeQ x y).n, .int .i64 (makeQ x y).d]), (ba, [.int .i64 (makeQ x y).n, .int .i64 (makeQ x y).d]), (ball, cells)]) (hN : ∀ w', Fr F0 w0 w' → Row w' ball cells → N0 n true ⟨ball, 0, none⟩ (i + 1) w') :
    probitylaw01_RatioMakes_k3 n true ⟨ball, 0, none⟩ i ⟨ba, 0, none⟩ (makeQ x y).ok ⟨bb, 0, none⟩ (makeQ x y).ok ⟨bc, 0, none⟩ (quoQ x 1 y 1).ok N0 K w := by
  refine ⟨?_⟩
  unfold probitylaw01_RatioMakes_k3d
  refine ⟨_, m.ld 2 rfl rfl, ?_⟩
  refine ⟨_, m.ld 2 rfl rfl, ?_⟩
  refine ⟨_, m.ld 1 rfl rfl, ?_⟩
  refine ⟨_, m.ld 1 rfl rfl, ?_⟩
  refine same_spec fun w88 hf => ?_; have m := m.fr hf
  refine cnd_iff.2 ⟨fun hc1 => ?_, fun hc1 => ?_⟩
  · exact absurd hc1 (by rw [sameB_iff.2 rfl]; simp)
  · refine ⟨_, m.ld 2 rfl rfl, ?_⟩
    refine ⟨_, m.ld 2 rfl rfl, ?_⟩
    refine ⟨_, m.ld 0 rfl rfl, ?_⟩
    refine ⟨_, m.ld 0 rfl rfl, ?_⟩
    refine same_spec fun w94 hf => ?_; have m := m.fr hf
    refine cnd_iff.2 ⟨fun hc2 => ?_, fun hc2 => ?_⟩
    · exact absurd hc2 (by rw [sameB_iff.2 (makes_quo x y)]; simp)
    · refine ⟨_, m.ld 2 rfl rfl, ?_⟩
      refine ⟨_, m.ld 2 rfl rfl, ?_⟩
      refine Right_spec (by first | assumption | exact (makeQ_right _ _).2.1 | exact (makeQ_right _ _).2.2 | exact i64 rfl | exact (quoQ_I64 _ _ _ _).1 | exact (quoQ_I64 _ _ _ _).2) (by first | assumption | exact (makeQ_right _ _).2.1 | exact (makeQ_right _ _).2.2 | exact i64 rfl | exact (quoQ_I64 _ _ _ _).1 | exact (quoQ_I64 _ _ _ _).2) fun w98 hf => ?_; have m := m.fr hf
      refine cnd_iff.2 ⟨fun hc3 => ?_, fun hc3 => ?_⟩
      · exact absurd hc3 (by rw [decide_eq_true (makeQ_right x y).1]; simp)
      · refine Of_spec fun w100 hf => ?_; have m := m.fr hf
        refine cnd_iff.2 ⟨fun hc4 => ?_, fun hc4 => ?_⟩
        · exact absurd hc4 (by simp)
        · refine ⟨inR64 (by omega) (by omega), ?_⟩
          exact hN _ m.1 (m.2.1 (ball, cells) (by simp))

theorem Makes_k2 {n x y i : Int} {ball ba bb : Nat} {cells : List Value} {N0 : Int → Bool → Addr → Int → World → Prop} {K : Bool → World → Prop} (hx : I64 x) (hy : I64 y) (hi : 0 ≤ i ∧ i < ((3 : Nat) : Int)) (hX : ∀ u : World, Row u ball cells → u.cell? (((Addr.mk ball 0 none).add (i.toNat * 2)).add ((0 : Int).toNat * 1)) = some (.int .i64 x)) (hY : ∀ u : World, Row u ball cells → u.cell? (((Addr.mk ball 0 none).add (i.toNat * 2)).add ((1 : Int).toNat * 1)) = some (.int .i64 y))
    (m : Mem w0 w [(bb, [.int .i64 (makeQ x y).n, .int .i64 (makeQ x y).d]), (ba, [.int .i64 (makeQ x y).n, .int .i64 (makeQ x y).d]), (ball, cells)]) (hN : ∀ w', Fr F0 w0 w' → Row w' ball cells → N0 n true ⟨ball, 0, none⟩ (i + 1) w') :
    probitylaw01_RatioMakes_k2 n true ⟨ball, 0, none⟩ i ⟨ba, 0, none⟩ (makeQ x y).ok ⟨bb, 0, none⟩ (makeQ x y).ok N0 K w := by
  refine ⟨?_⟩
  unfold probitylaw01_RatioMakes_k2d
  intro w46; have m : Mem w0 w46 _ := m.drew; clear_value w46
  refine ⟨fun u => Rs u _, m.sub 0 rfl, ?_⟩
  refine ⟨hi, ?_⟩
  refine ⟨by decide, ?_⟩
  -- LOADS ∀ w' : World, S47 w' → w'.cell? ((all_8.add (i_9.toNat * 2)).add ((0 : Int).toNat * 1)) = some (Value.int .i64 x48)
  refine ⟨_, fun u h => hX u (h (ball, cells) (by simp)), ?_⟩
  refine ⟨hi, ?_⟩
  refine ⟨by decide, ?_⟩
  -- LOADS ∀ w' : World, S47 w' → w'.cell? ((all_8.add (i_9.toNat * 2)).add ((1 : Int).toNat * 1)) = some (Value.int .i64 x49)
  refine ⟨_, fun u h => hY u (h (ball, cells) (by simp)), ?_⟩
  refine ⟨?_, ?_⟩
  · refine Of_spec fun w50 hf => ?_; have m := m.fr hf
    refine ⟨m.sub 0 rfl, ?_⟩
    refine ⟨?_, ?_⟩
    · refine Of_spec fun w52 hf => ?_; have m := m.fr hf
      refine ⟨m.sub 0 rfl, ?_⟩
      refine ⟨?_, ?_⟩
      · refine Quo_s hx (by first | assumption | exact (makeQ_right _ _).2.1 | exact (makeQ_right _ _).2.2 | exact i64 rfl | exact (quoQ_I64 _ _ _ _).1 | exact (quoQ_I64 _ _ _ _).2) hy (by first | assumption | exact (makeQ_right _ _).2.1 | exact (makeQ_right _ _).2.2 | exact i64 rfl | exact (quoQ_I64 _ _ _ _).1 | exact (quoQ_I64 _ _ _ _).2) fun w54 hf => ?_; have m := m.fr hf
        refine ⟨m.sub 0 rfl, ?_⟩
        intro w57; have m : Mem w0 w57 _ := m.allocL; clear_value w57
        refine ⟨m.sub 1 rfl, ?_⟩
        refine ⟨m.wr 0 rfl rfl, ?_⟩
        intro w58; have m : Mem w0 w58 _ := m.set 0 rfl; clear_value w58; simp only [List.set_cons_zero] at m
        refine ⟨m.wr 0 rfl rfl, ?_⟩
        intro w59; have m : Mem w0 w59 _ := m.set 0 rfl; clear_value w59; simp only [List.set_cons_zero, List.set_cons_succ] at m
        exact Makes_k3 hi m hN
      · intro w60; have m : Mem w0 w60 _ := m.allocL; clear_value w60
        refine ⟨m.sub 1 rfl, ?_⟩
        refine Quo_s hx (by first | assumption | exact (makeQ_right _ _).2.1 | exact (makeQ_right _ _).2.2 | exact i64 rfl | exact (quoQ_I64 _ _ _ _).1 | exact (quoQ_I64 _ _ _ _).2) hy (by first | assumption | exact (makeQ_right _ _).2.1 | exact (makeQ_right _ _).2.2 | exact i64 rfl | exact (quoQ_I64 _ _ _ _).1 | exact (quoQ_I64 _ _ _ _).2) fun w61 hf => ?_; have m := m.fr hf
        refine ⟨m.sub 1 rfl, ?_⟩
        refine ⟨m.wr 0 rfl rfl, ?_⟩
        intro w64; have m : Mem w0 w64 _ := m.set 0 rfl; clear_value w64; simp only [List.set_cons_zero] at m
        refine ⟨m.wr 0 rfl rfl, ?_⟩
        intro w65; have m : Mem w0 w65 _ := m.set 0 rfl; clear_value w65; simp only [List.set_cons_zero, List.set_cons_succ] at m
        exact Makes_k3 hi m hN
    · intro w66; have m : Mem w0 w66 _ := m.allocL; clear_value w66
      refine ⟨m.sub 1 rfl, ?_⟩
      refine Of_spec fun w67 hf => ?_; have m := m.fr hf
      refine ⟨m.sub 1 rfl, ?_⟩
      refine Quo_s hx (by first | assumption | exact (makeQ_right _ _).2.1 | exact (makeQ_right _ _).2.2 | exact i64 rfl | exact (quoQ_I64 _ _ _ _).1 | exact (quoQ_I64 _ _ _ _).2) hy (by first | assumption | exact (makeQ_right _ _).2.1 | exact (makeQ_right _ _).2.2 | exact i64 rfl | exact (quoQ_I64 _ _ _ _).1 | exact (quoQ_I64 _ _ _ _).2) fun w69 hf => ?_; have m := m.fr hf
      refine ⟨m.sub 1 rfl, ?_⟩
      refine ⟨m.wr 0 rfl rfl, ?_⟩
      intro w72; have m : Mem w0 w72 _ := m.set 0 rfl; clear_value w72; simp only [List.set_cons_zero] at m
      refine ⟨m.wr 0 rfl rfl, ?_⟩
      intro w73; have m : Mem w0 w73 _ := m.set 0 rfl; clear_value w73; simp only [List.set_cons_zero, List.set_cons_succ] at m
      exact Makes_k3 hi m hN
  · intro w74; have m : Mem w0 w74 _ := m.allocL; clear_value w74
    refine ⟨m.sub 1 rfl, ?_⟩
    refine Of_spec fun w75 hf => ?_; have m := m.fr hf
    refine ⟨m.sub 1 rfl, ?_⟩
    refine Of_spec fun w77 hf => ?_; have m := m.fr hf
    refine ⟨m.sub 1 rfl, ?_⟩
    refine Quo_s hx (by first | assumption | exact (makeQ_right _ _).2.1 | exact (makeQ_right _ _).2.2 | exact i64 rfl | exact (quoQ_I64 _ _ _ _).1 | exact (quoQ_I64 _ _ _ _).2) hy (by first | assumption | exact (makeQ_right _ _).2.1 | exact (makeQ_right _ _).2.2 | exact i64 rfl | exact (quoQ_I64 _ _ _ _).1 | exact (quoQ_I64 _ _ _ _).2) fun w79 hf => ?_; have m := m.fr hf
    refine ⟨m.sub 1 rfl, ?_⟩
    refine ⟨m.wr 0 rfl rfl, ?_⟩
    intro w82; have m : Mem w0 w82 _ := m.set 0 rfl; clear_value w82; simp only [List.set_cons_zero] at m
    refine ⟨m.wr 0 rfl rfl, ?_⟩
    intro w83; have m : Mem w0 w83 _ := m.set 0 rfl; clear_value w83; simp only [List.set_cons_zero, List.set_cons_succ] at m
    exact Makes_k3 hi m hN

theorem Makes_k1 {n x y i : Int} {ball ba : Nat} {cells : List Value} {N0 : Int → Bool → Addr → Int → World → Prop} {K : Bool → World → Prop} (hx : I64 x) (hy : I64 y) (hi : 0 ≤ i ∧ i < ((3 : Nat) : Int)) (hX : ∀ u : World, Row u ball cells → u.cell? (((Addr.mk ball 0 none).add (i.toNat * 2)).add ((0 : Int).toNat * 1)) = some (.int .i64 x)) (hY : ∀ u : World, Row u ball cells → u.cell? (((Addr.mk ball 0 none).add (i.toNat * 2)).add ((1 : Int).toNat * 1)) = some (.int .i64 y))
    (m : Mem w0 w [(ba, [.int .i64 (makeQ x y).n, .int .i64 (makeQ x y).d]), (ball, cells)]) (hN : ∀ w', Fr F0 w0 w' → Row w' ball cells → N0 n true ⟨ball, 0, none⟩ (i + 1) w') :
    probitylaw01_RatioMakes_k1 n true ⟨ball, 0, none⟩ i ⟨ba, 0, none⟩ (makeQ x y).ok N0 K w := by
  refine ⟨?_⟩
  unfold probitylaw01_RatioMakes_k1d
  intro w30; have m : Mem w0 w30 _ := m.drew; clear_value w30
  refine ⟨fun u => Rs u _, m.sub 0 rfl, ?_⟩
  refine ⟨hi, ?_⟩
  refine ⟨by decide, ?_⟩
  -- LOADS ∀ w' : World, S31 w' → w'.cell? ((all_8.add (i_9.toNat * 2)).add ((0 : Int).toNat * 1)) = some (Value.int .i64 x32)
  refine ⟨_, fun u h => hX u (h (ball, cells) (by simp)), ?_⟩
  refine ⟨hi, ?_⟩
  refine ⟨by decide, ?_⟩
  -- LOADS ∀ w' : World, S31 w' → w'.cell? ((all_8.add (i_9.toNat * 2)).add ((1 : Int).toNat * 1)) = some (Value.int .i64 x33)
  refine ⟨_, fun u h => hY u (h (ball, cells) (by simp)), ?_⟩
  refine ⟨?_, ?_⟩
  · refine rMake_s hx hy fun w34 hf => ?_; have m := m.fr hf
    refine ⟨m.sub 0 rfl, ?_⟩
    intro w37; have m : Mem w0 w37 _ := m.allocL; clear_value w37
    refine ⟨m.sub 1 rfl, ?_⟩
    refine ⟨m.wr 0 rfl rfl, ?_⟩
    intro w38; have m : Mem w0 w38 _ := m.set 0 rfl; clear_value w38; simp only [List.set_cons_zero] at m
    refine ⟨m.wr 0 rfl rfl, ?_⟩
    intro w39; have m : Mem w0 w39 _ := m.set 0 rfl; clear_value w39; simp only [List.set_cons_zero, List.set_cons_succ] at m
    exact Makes_k2 hx hy hi hX hY m hN
  · intro w40; have m : Mem w0 w40 _ := m.allocL; clear_value w40
    refine ⟨m.sub 1 rfl, ?_⟩
    refine rMake_s hx hy fun w41 hf => ?_; have m := m.fr hf
    refine ⟨m.wr 0 rfl rfl, ?_⟩
    intro w44; have m : Mem w0 w44 _ := m.set 0 rfl; clear_value w44; simp only [List.set_cons_zero] at m
    refine ⟨m.wr 0 rfl rfl, ?_⟩
    intro w45; have m : Mem w0 w45 _ := m.set 0 rfl; clear_value w45; simp only [List.set_cons_zero, List.set_cons_succ] at m
    exact Makes_k2 hx hy hi hX hY m hN

theorem Makes_round {n x y i : Int} {ball : Nat} {cells : List Value} {N0 : Int → Bool → Addr → Int → World → Prop} {K : Bool → World → Prop} (hx : I64 x) (hy : I64 y) (hi : 0 ≤ i ∧ i < ((3 : Nat) : Int)) (hX : ∀ u : World, Row u ball cells → u.cell? (((Addr.mk ball 0 none).add (i.toNat * 2)).add ((0 : Int).toNat * 1)) = some (.int .i64 x)) (hY : ∀ u : World, Row u ball cells → u.cell? (((Addr.mk ball 0 none).add (i.toNat * 2)).add ((1 : Int).toNat * 1)) = some (.int .i64 y))
    (m : Mem w0 w [(ball, cells)]) (hN : ∀ w', Fr F0 w0 w' → Row w' ball cells → N0 n true ⟨ball, 0, none⟩ (i + 1) w') :
    probitylaw01_RatioMakes_b0 n true ⟨ball, 0, none⟩ i N0 K w := by
  unfold probitylaw01_RatioMakes_b0
  have hlt : i < 3 := hi.2
  rw [decide_eq_true hlt, cnd_true]
  intro w14; have m : Mem w0 w14 _ := m.drew; clear_value w14
  refine ⟨fun u => Rs u _, m.sub 0 rfl, ?_⟩
  refine ⟨hi, ?_⟩
  refine ⟨by decide, ?_⟩
  -- LOADS ∀ w' : World, S15 w' → w'.cell? ((all_8.add (i_9.toNat * 2)).add ((0 : Int).toNat * 1)) = some (Value.int .i64 x16)
  refine ⟨_, fun u h => hX u (h (ball, cells) (by simp)), ?_⟩
  refine ⟨hi, ?_⟩
  refine ⟨by decide, ?_⟩
  -- LOADS ∀ w' : World, S15 w' → w'.cell? ((all_8.add (i_9.toNat * 2)).add ((1 : Int).toNat * 1)) = some (Value.int .i64 x17)
  refine ⟨_, fun u h => hY u (h (ball, cells) (by simp)), ?_⟩
  refine ⟨?_, ?_⟩
  · refine Make_s hx hy fun w18 hf => ?_; have m := m.fr hf
    refine ⟨m.sub 0 rfl, ?_⟩
    intro w21; have m : Mem w0 w21 _ := m.allocL; clear_value w21
    refine ⟨m.sub 1 rfl, ?_⟩
    refine ⟨m.wr 0 rfl rfl, ?_⟩
    intro w22; have m : Mem w0 w22 _ := m.set 0 rfl; clear_value w22; simp only [List.set_cons_zero] at m
    refine ⟨m.wr 0 rfl rfl, ?_⟩
    intro w23; have m : Mem w0 w23 _ := m.set 0 rfl; clear_value w23; simp only [List.set_cons_zero, List.set_cons_succ] at m
    exact Makes_k1 hx hy hi hX hY m hN
  · intro w24; have m : Mem w0 w24 _ := m.allocL; clear_value w24
    refine ⟨m.sub 1 rfl, ?_⟩
    refine Make_s hx hy fun w25 hf => ?_; have m := m.fr hf
    refine ⟨m.wr 0 rfl rfl, ?_⟩
    intro w28; have m : Mem w0 w28 _ := m.set 0 rfl; clear_value w28; simp only [List.set_cons_zero] at m
    refine ⟨m.wr 0 rfl rfl, ?_⟩
    intro w29; have m : Mem w0 w29 _ := m.set 0 rfl; clear_value w29; simp only [List.set_cons_zero, List.set_cons_succ] at m
    exact Makes_k1 hx hy hi hX hY m hN

theorem Makes_l0 {n d s0 s1 : Int} {ball : Nat} {l : List (Nat × List Value)} {K : Bool → World → Prop} (hn : I64 n) (hd : I64 d) (h0 : I64 s0) (h1 : I64 s1)
    (m : Mem w0 w ((ball, [.int .i64 n, .int .i64 d, .int .i64 s0, .int .i64 s1, .int .i64 n, .int .i64 s1]) :: l)) (hK : ∀ w', Fr F0 w0 w' → K true w') : probitylaw01_RatioMakes_l0 n true ⟨ball, 0, none⟩ 0 K w := by
  have hb : w0.heap.size ≤ ball := m.2.2.2 _ (List.mem_cons_self ..)
  refine ⟨⟨fun i w' => ∃ i' : Nat, i = i' ∧ i' ≤ 3 ∧ Fr F0 w0 w' ∧ Row w' ball [.int .i64 n, .int .i64 d, .int .i64 s0, .int .i64 s1, .int .i64 n, .int .i64 s1], fun i _ => 3 - i.toNat, ⟨0, rfl, by omega, m.1, m.2.1 _ (List.mem_cons_self ..)⟩, ?_⟩⟩
  rintro i w1 ⟨i', rfl, hi, hf, hr⟩
  rcases Nat.lt_or_ge i' 3 with hlt | hge
  · have hc : i' = 0 ∨ i' = 1 ∨ i' = 2 := by omega
    rcases hc with rfl | rfl | rfl
    · exact Makes_round hn hd (by decide) (fun u h => h.at rfl) (fun u h => h.at rfl) (Mem.one hf hr hb) fun w2 hf2 hr2 => ⟨⟨⟨rfl, rfl, rfl, trivial⟩, 1, rfl, by omega, hf2, hr2⟩, by dsimp only; omega⟩
    · exact Makes_round h0 h1 (by decide) (fun u h => h.at rfl) (fun u h => h.at rfl) (Mem.one hf hr hb) fun w2 hf2 hr2 => ⟨⟨⟨rfl, rfl, rfl, trivial⟩, 2, rfl, by omega, hf2, hr2⟩, by dsimp only; omega⟩
    · exact Makes_round hn h1 (by decide) (fun u h => h.at rfl) (fun u h => h.at rfl) (Mem.one hf hr hb) fun w2 hf2 hr2 => ⟨⟨⟨rfl, rfl, rfl, trivial⟩, 3, rfl, by omega, hf2, hr2⟩, by dsimp only; omega⟩
  · unfold probitylaw01_RatioMakes_b0
    rw [decide_eq_false (by omega), cnd_false]
    exact hK w1 hf

theorem Makes_law {n d s0 s1 : Int} {K : Bool → World → Prop} (g : Gl w) (hn : I64 n) (hd : I64 d) (hs : (-32768 ≤ s0 ∧ s0 < 32768) ∧ (-32768 ≤ s1 ∧ s1 < 32768)) (hK : ∀ w', Fr F0 w w' → K true w') : probitylaw01_RatioMakes_sh n d s0 s1 K w := by
  have h0 : I64 s0 := ⟨by omega, by omega⟩
  have h1 : I64 s1 := ⟨by omega, by omega⟩
  refine ⟨?_⟩
  unfold probitylaw01_RatioMakes_sd
  have m : Mem w w [] := Mem.nil
  intro w1; have m : Mem w w1 _ := m.allocL; clear_value w1
  refine sanity_spec (g.fr m.1) fun w2 hf => ?_; have m := m.fr hf
  refine ⟨by decide, ?_⟩
  refine ⟨_, m.ld 0 rfl rfl, ?_⟩
  refine ⟨inR64 (by omega) (by omega), ?_⟩
  refine ⟨by decide, ?_⟩
  refine ⟨_, m.ld 0 rfl rfl, ?_⟩
  refine ⟨inR64 (by omega) (by omega), ?_⟩
  refine ⟨by decide, ?_⟩
  refine ⟨_, m.ld 0 rfl rfl, ?_⟩
  refine ⟨inR64 (by omega) (by omega), ?_⟩
  intro w7; have m : Mem w w7 _ := m.allocL; clear_value w7
  refine ⟨m.wr 0 rfl rfl, ?_⟩
  intro w8; have m : Mem w w8 _ := m.set 0 rfl; clear_value w8; simp only [List.set_cons_zero] at m
  refine ⟨m.wr 0 rfl rfl, ?_⟩
  intro w9; have m : Mem w w9 _ := m.set 0 rfl; clear_value w9; simp only [List.set_cons_zero, List.set_cons_succ] at m
  refine ⟨m.wr 0 rfl rfl, ?_⟩
  intro w10; have m : Mem w w10 _ := m.set 0 rfl; clear_value w10; simp only [List.set_cons_zero, List.set_cons_succ] at m
  refine ⟨m.wr 0 rfl rfl, ?_⟩
  intro w11; have m : Mem w w11 _ := m.set 0 rfl; clear_value w11; simp only [List.set_cons_zero, List.set_cons_succ] at m
  refine ⟨m.wr 0 rfl rfl, ?_⟩
  intro w12; have m : Mem w w12 _ := m.set 0 rfl; clear_value w12; simp only [List.set_cons_zero, List.set_cons_succ] at m
  refine ⟨m.wr 0 rfl rfl, ?_⟩
  intro w13; have m : Mem w w13 _ := m.set 0 rfl; clear_value w13; simp only [List.set_cons_zero, List.set_cons_succ] at m
  exact Makes_l0 hn hd h0 h1 m hK
end
end Go.Proofs.YtfclokkfnkieoaaDoor