/- The bodies' formulas, by program. -/
import Derived.Test.YtfclokkfnkieoaaGreatDoorProg
import Derived.KernelRfl
import Derived.Test.YtfclokkfnkieoaaGreatDoorPwX
set_option maxRecDepth 20000
namespace Go.Proofs.YtfclokkfnkieoaaGreatDoor
open Go Pw
theorem progMixed : Tryz.prog.follows .mixedOrders = true := by kernel_rfl
structure bits_Add64_sh (a b c : Int) (K : Int → Int → World → Prop) (w : World) : Prop where
  out : (0 ≤ a ∧ a < 18446744073709551616 ∧ 0 ≤ b ∧ b < 18446744073709551616 ∧ 0 ≤ c ∧ c ≤ 1) ∧ K ((a + b + c) % 18446744073709551616) ((a + b + c) / 18446744073709551616) w

noncomputable def bits_Add64_S : Pw.Spec := fun vs w Kv =>
  match vs with
  | [.int .u64 a, .int .u64 b, .int .u64 c] => bits_Add64_sh a b c (fun (r s : Int) (w' : World) => Kv (Value.tuple #[Value.int .u64 r, Value.int .u64 s]) w') w
  | _ => False

theorem bits_Add64_ok : SoundX Tryz.prog 89 bits_Add64_S := fun vs w Kv h => by
  unfold bits_Add64_S at h
  split at h
  · rename_i a b c
    obtain ⟨⟨ha, ha', hb, hb', hc, hc'⟩, hk⟩ := h.out
    exact bits_Add64_run Tryz.func89 (by kernel_rfl) (by kernel_rfl) (by kernel_rfl) (by kernel_rfl) ha ha' hb hb' hc hc' hk
  · exact h.elim

structure bits_Sub64_sh (a b c : Int) (K : Int → Int → World → Prop) (w : World) : Prop where
  out : (0 ≤ a ∧ a < 18446744073709551616 ∧ 0 ≤ b ∧ b < 18446744073709551616 ∧ 0 ≤ c ∧ c ≤ 1) ∧ K ((a - b - c) % 18446744073709551616) (if a < b + c then 1 else 0) w

noncomputable def bits_Sub64_S : Pw.Spec := fun vs w Kv =>
  match vs with
  | [.int .u64 a, .int .u64 b, .int .u64 c] => bits_Sub64_sh a b c (fun (r s : Int) (w' : World) => Kv (Value.tuple #[Value.int .u64 r, Value.int .u64 s]) w') w
  | _ => False

theorem bits_Sub64_ok : SoundX Tryz.prog 90 bits_Sub64_S := fun vs w Kv h => by
  unfold bits_Sub64_S at h
  split at h
  · rename_i a b c
    obtain ⟨⟨ha, ha', hb, hb', hc, hc'⟩, hk⟩ := h.out
    exact bits_Sub64_run Tryz.func90 (by kernel_rfl) (by kernel_rfl) (by kernel_rfl) (by kernel_rfl) ha ha' hb hb' hc hc' hk
  · exact h.elim

/-! ratio_zero -/
def ratio_zero_sd  (K : Int → Int → World → Prop) (w : World) : Prop :=
  let w1 : World := w.alloc (Obj.cells #[(Value.int .i64 (0 : Int)), (Value.int .i64 (0 : Int))] 26)
  wrOk w1 (Addr.mk w.heap.size 0 none) ∧ 
  (let w2 : World := w1.setCell (Addr.mk w.heap.size 0 none) (Value.int .i64 (0 : Int))
  wrOk w2 (Addr.mk w.heap.size 1 none) ∧ 
  (let w3 : World := w2.setCell (Addr.mk w.heap.size 1 none) (Value.int .i64 (1 : Int))
  ∃ x4 : Int, w3.cell? (Addr.mk w.heap.size 0 none) = some (Value.int .i64 x4) ∧ ∃ x5 : Int, w3.cell? (Addr.mk w.heap.size 1 none) = some (Value.int .i64 x5) ∧ K x4 x5 w3))

structure ratio_zero_sh  (K : Int → Int → World → Prop) (w : World) : Prop where
  out : ratio_zero_sd  K w

noncomputable def ratio_zero_S : Pw.Spec := fun vs w Kv =>
  match vs with
  | [] => ratio_zero_sh  (fun (r0_0 : Int) (r0_1 : Int) (w' : World) => Kv (Value.agg #[(Value.int .i64 r0_0), (Value.int .i64 r0_1)]) w') w
  | _ => False

noncomputable def ratio_zero_E : Pw.Env := []

noncomputable def ratio_zero_C : Code := (Tryz.f29.body).getD .skip

noncomputable def ratio_zero_A (_Kv : VW) : Pw.A :=
  (A.seq (A.reg (RA.run RA.done))
   (A.seq (A.reg (RA.run (RA.run RA.done)))
   A.leaf))

noncomputable def ratio_zero_O (Kv : VW) : List Ob := (obs Tryz.prog ratio_zero_E 2 (ratio_zero_A Kv) ratio_zero_C (fun _ => retQ Tryz.prog Tryz.f29.results Kv))

theorem ratio_zero_e (Kv : VW)  (w : World) : ratio_zero_sd  (fun (r0_0 : Int) (r0_1 : Int) (w' : World) => Kv (Value.agg #[(Value.int .i64 r0_0), (Value.int .i64 r0_1)]) w') w = W Tryz.prog ratio_zero_E 2 (ratio_zero_A Kv) ratio_zero_C [] (retQ Tryz.prog Tryz.f29.results Kv) [] (startS []) w := by kernel_rfl

theorem ratio_zero_n (Kv : VW) : obAt (ratio_zero_O Kv) 0 = none := by kernel_rfl

theorem ratio_zero_h (Kv : VW) : ∀ k, holdsAt Tryz.prog ratio_zero_E 2 (ratio_zero_O Kv) k := fun _ => holdsAt_ge (ratio_zero_n Kv) (Nat.zero_le _)

theorem ratio_zero_ok : Sound Tryz.prog 29 ratio_zero_S := ⟨Tryz.call29, fun vs w Kv h => by
  unfold ratio_zero_S at h
  split at h
  · have h := h.out
    rw [ratio_zero_e] at h
    exact calls_sound (Γ := ratio_zero_E) progMixed trivial Tryz.func29 (code := ratio_zero_C) (by kernel_rfl) (ratio_zero_A Kv) Kv (holds_all (ratio_zero_h Kv)) (Nat.le_of_ble_eq_true (by kernel_rfl)) h
  · exact h.elim⟩

/-! ratio_size -/
def ratio_size_sd (n_0 : Int) (K : Int → World → Prop) (w : World) : Prop :=
  cnd (decide (n_0 < (0 : Int)))
    (K (IntKind.wrap .u64 ((0 : Int) - (IntKind.wrap .u64 n_0))) w)
    (K (IntKind.wrap .u64 n_0) w)

structure ratio_size_sh (n_0 : Int) (K : Int → World → Prop) (w : World) : Prop where
  out : ratio_size_sd n_0 K w

noncomputable def ratio_size_S : Pw.Spec := fun vs w Kv =>
  match vs with
  | [.int .i64 n_0] => ratio_size_sh n_0 (fun (r0 : Int) (w' : World) => Kv (Value.int .u64 r0) w') w
  | _ => False

noncomputable def ratio_size_E : Pw.Env := []

noncomputable def ratio_size_C : Code := (Tryz.f41.body).getD .skip

noncomputable def ratio_size_A (_Kv : VW) : Pw.A :=
  (A.seq (A.reg (RA.run RA.done))
   (A.seq (A.seq (A.reg (RA.run (RA.run RA.done)))
   (A.cond (A.seq (A.reg (RA.run (RA.raw (RA.raw (RA.run RA.done)))))
   A.leaf)
   A.leaf))
   (A.seq (A.reg (RA.run (RA.raw (RA.run RA.done))))
   A.leaf)))

noncomputable def ratio_size_O (Kv : VW) : List Ob := (obs Tryz.prog ratio_size_E 10 (ratio_size_A Kv) ratio_size_C (fun _ => retQ Tryz.prog Tryz.f41.results Kv))

theorem ratio_size_e (Kv : VW) (n_0 : Int) (w : World) : ratio_size_sd n_0 (fun (r0 : Int) (w' : World) => Kv (Value.int .u64 r0) w') w = W Tryz.prog ratio_size_E 10 (ratio_size_A Kv) ratio_size_C [] (retQ Tryz.prog Tryz.f41.results Kv) [] (startS [(Value.int .i64 n_0)]) w := by kernel_rfl

theorem ratio_size_n (Kv : VW) : obAt (ratio_size_O Kv) 0 = none := by kernel_rfl

theorem ratio_size_h (Kv : VW) : ∀ k, holdsAt Tryz.prog ratio_size_E 10 (ratio_size_O Kv) k := fun _ => holdsAt_ge (ratio_size_n Kv) (Nat.zero_le _)

theorem ratio_size_ok : Sound Tryz.prog 41 ratio_size_S := ⟨Tryz.call41, fun vs w Kv h => by
  unfold ratio_size_S at h
  split at h
  · have h := h.out
    rw [ratio_size_e] at h
    exact calls_sound (Γ := ratio_size_E) progMixed trivial Tryz.func41 (code := ratio_size_C) (by kernel_rfl) (ratio_size_A Kv) Kv (holds_all (ratio_size_h Kv)) (Nat.le_of_ble_eq_true (by kernel_rfl)) h
  · exact h.elim⟩

/-! ratio_gcd -/
def ratio_gcd_b0 (a_0 : Int) (b_1 : Int) (N0 : Int → Int → World → Prop)  (K : Int → World → Prop) (w : World) : Prop :=
  cnd (decide (b_1 > (0 : Int)))
    (let w1 : World := w.drew
  b_1 ≠ 0 ∧ N0 b_1 (Int.tmod a_0 b_1) w1)
    (K a_0 w)
def ratio_gcd_l0d (a_0 : Int) (b_1 : Int)  (K : Int → World → Prop) (w : World) : Prop :=
  ∃ (I : Int → Int → World → Prop) (μ : Int → Int → World → Nat), I a_0 b_1 w ∧ ∀ (a_01 : Int) (b_11 : Int) (w1 : World), I a_01 b_11 w1 →
    ratio_gcd_b0 a_01 b_11 (fun (a_0' : Int) (b_1' : Int) (w' : World) => ((True) ∧ I a_0' b_1' w') ∧ μ a_0' b_1' w' < μ a_01 b_11 w1)  K w1
structure ratio_gcd_l0 (a_0 : Int) (b_1 : Int)  (K : Int → World → Prop) (w : World) : Prop where
  out : ratio_gcd_l0d a_0 b_1 K w

def ratio_gcd_sd (a_0 : Int) (b_1 : Int) (K : Int → World → Prop) (w : World) : Prop :=
  ratio_gcd_l0 a_0 b_1 K w

structure ratio_gcd_sh (a_0 : Int) (b_1 : Int) (K : Int → World → Prop) (w : World) : Prop where
  out : ratio_gcd_sd a_0 b_1 K w

def ratio_gcd_P0 (Kv : VW) (ρ : Rho) (vs : List Value) (w : World) : Prop :=
  match ρ, vs with
  | _, [.int .u64 a_0, .int .u64 b_1] => ratio_gcd_l0 a_0 b_1  (fun (r0 : Int) (w' : World) => Kv (Value.int .u64 r0) w') w
  | _, _ => False

noncomputable def ratio_gcd_S : Pw.Spec := fun vs w Kv =>
  match vs with
  | [.int .u64 a_0, .int .u64 b_1] => ratio_gcd_sh a_0 b_1 (fun (r0 : Int) (w' : World) => Kv (Value.int .u64 r0) w') w
  | _ => False

noncomputable def ratio_gcd_E : Pw.Env := []

noncomputable def ratio_gcd_C : Code := (Tryz.f55.body).getD .skip

noncomputable def ratio_gcd_A (Kv : VW) : Pw.A :=
  (A.seq (A.reg (RA.run RA.done))
   (A.seq (A.blk (A.loop [0, 1] (ratio_gcd_P0 Kv) (A.seq (A.seq (A.reg (RA.run (RA.run RA.done)))
   (A.cond A.leaf
   A.leaf))
   (A.blk (A.drp (DA.pur 0 (DA.pur 1 (DA.pur 2 (DA.pur 3 (DA.pur 4 (DA.pur 5 DA.done)))))))))))
   (A.seq (A.reg (RA.run (RA.run RA.done)))
   A.leaf)))

noncomputable def ratio_gcd_O (Kv : VW) : List Ob := (obs Tryz.prog ratio_gcd_E 12 (ratio_gcd_A Kv) ratio_gcd_C (fun _ => retQ Tryz.prog Tryz.f55.results Kv))

theorem ratio_gcd_e (Kv : VW) (a_0 : Int) (b_1 : Int) (w : World) : ratio_gcd_sd a_0 b_1 (fun (r0 : Int) (w' : World) => Kv (Value.int .u64 r0) w') w = W Tryz.prog ratio_gcd_E 12 (ratio_gcd_A Kv) ratio_gcd_C [] (retQ Tryz.prog Tryz.f55.results Kv) [] (startS [(Value.int .u64 a_0), (Value.int .u64 b_1)]) w := by kernel_rfl

theorem ratio_gcd_e0 (Kv : VW) (N0 : List Value → World → Prop) (ρ : Rho) (a_0 : Int) (b_1 : Int) (w : World) : ratio_gcd_b0 a_0 b_1 (fun (a_0' : Int) (b_1' : Int) (w' : World) => N0 [(Value.int .u64 a_0'), (Value.int .u64 b_1')] w')  (fun (r0 : Int) (w' : World) => Kv (Value.int .u64 r0) w') w = goalAt Tryz.prog ratio_gcd_E 12 (ratio_gcd_O Kv) 0 (N0 :: ρ) [(Value.int .u64 a_0), (Value.int .u64 b_1)] w := by kernel_rfl

theorem ratio_gcd_q0 (Kv : VW) (ρ : Rho) (vs : List Value) (w : World) : labAt (ratio_gcd_O Kv) 0 ρ vs w = ratio_gcd_P0 Kv ρ vs w := by kernel_rfl

def ratio_gcd_I0  (I : Int → Int → World → Prop) (vs : List Value) (w : World) : Prop :=
  match vs with
  | [.int .u64 a_0, .int .u64 b_1] => (True) ∧ I a_0 b_1 w
  | _ => False

def ratio_gcd_M0 (μ : Int → Int → World → Nat) (vs : List Value) (w : World) : Nat :=
  match vs with
  | [.int .u64 a_0, .int .u64 b_1] => μ a_0 b_1 w
  | _ => 0

theorem ratio_gcd_h0 (Kv : VW) : holdsAt Tryz.prog ratio_gcd_E 12 (ratio_gcd_O Kv) 0 := holdsAt_loop (by kernel_rfl) (fun ρ vs w h => by
  rw [ratio_gcd_q0] at h
  unfold ratio_gcd_P0 at h
  split at h
  · rename_i ρt a_0 b_1
    obtain ⟨I, μ, h0, hr⟩ := h.out
    refine ⟨ratio_gcd_I0  I, ratio_gcd_M0 μ, ⟨trivial, h0⟩, fun vs w hI => ?_⟩
    unfold ratio_gcd_I0 at hI
    split at hI
    · obtain ⟨_, hI⟩ := hI
      skip
      rw [← ratio_gcd_e0]
      exact hr _ _ _ hI
    · exact hI.elim
  · exact h.elim)

theorem ratio_gcd_n (Kv : VW) : obAt (ratio_gcd_O Kv) 1 = none := by kernel_rfl

theorem ratio_gcd_h (Kv : VW) : ∀ k, holdsAt Tryz.prog ratio_gcd_E 12 (ratio_gcd_O Kv) k := fun k => match k with
  | 0 => ratio_gcd_h0 Kv
  | _k + 1 => holdsAt_ge (ratio_gcd_n Kv) (Nat.le_add_left _ _)

theorem ratio_gcd_ok : Sound Tryz.prog 55 ratio_gcd_S := ⟨Tryz.call55, fun vs w Kv h => by
  unfold ratio_gcd_S at h
  split at h
  · have h := h.out
    rw [ratio_gcd_e] at h
    exact calls_sound (Γ := ratio_gcd_E) progMixed trivial Tryz.func55 (code := ratio_gcd_C) (by kernel_rfl) (ratio_gcd_A Kv) Kv (holds_all (ratio_gcd_h Kv)) (Nat.le_of_ble_eq_true (by kernel_rfl)) h
  · exact h.elim⟩

/-! ratio_rat -/
def ratio_rat_k0d (t_6 : Addr)  (K : Int → Int → Bool → World → Prop) (w : World) : Prop :=
  ratio_zero_sh (fun (r10_0 : Int) (r10_1 : Int) (w9 : World) => wrOk w9 t_6 ∧ 
  (let w11 : World := w9.setCell t_6 (Value.int .i64 r10_0)
  wrOk w11 (t_6.add 1) ∧ 
  (let w12 : World := w11.setCell (t_6.add 1) (Value.int .i64 r10_1)
  ∃ x13 : Int, w12.cell? t_6 = some (Value.int .i64 x13) ∧ ∃ x14 : Int, w12.cell? (t_6.add 1) = some (Value.int .i64 x14) ∧ K x13 x14 false w12))) w
structure ratio_rat_k0 (t_6 : Addr)  (K : Int → Int → Bool → World → Prop) (w : World) : Prop where
  out : ratio_rat_k0d t_6 K w

def ratio_rat_k2d (d_5 : Addr) (t_6 : Addr) (num_8 : Int)  (K : Int → Int → Bool → World → Prop) (w : World) : Prop :=
  ∃ x16 : Int, w.cell? (d_5.add 1) = some (Value.int .u64 x16) ∧ wrOk w t_6 ∧ 
  (let w17 : World := w.setCell t_6 (Value.int .i64 num_8)
  wrOk w17 (t_6.add 1) ∧ 
  (let w18 : World := w17.setCell (t_6.add 1) (Value.int .i64 (IntKind.wrap .i64 x16))
  ∃ x19 : Int, w18.cell? t_6 = some (Value.int .i64 x19) ∧ ∃ x20 : Int, w18.cell? (t_6.add 1) = some (Value.int .i64 x20) ∧ K x19 x20 true w18))
structure ratio_rat_k2 (d_5 : Addr) (t_6 : Addr) (num_8 : Int)  (K : Int → Int → Bool → World → Prop) (w : World) : Prop where
  out : ratio_rat_k2d d_5 t_6 num_8 K w

def ratio_rat_k1d (neg_0 : Bool) (n_4 : Addr) (d_5 : Addr) (t_6 : Addr)  (K : Int → Int → Bool → World → Prop) (w : World) : Prop :=
  ∃ x15 : Int, w.cell? (n_4.add 1) = some (Value.int .u64 x15) ∧ cnd neg_0
    (ratio_rat_k2 d_5 t_6 (IntKind.wrap .i64 ((0 : Int) - (IntKind.wrap .i64 x15))) K w)
    (ratio_rat_k2 d_5 t_6 (IntKind.wrap .i64 x15) K w)
structure ratio_rat_k1 (neg_0 : Bool) (n_4 : Addr) (d_5 : Addr) (t_6 : Addr)  (K : Int → Int → Bool → World → Prop) (w : World) : Prop where
  out : ratio_rat_k1d neg_0 n_4 d_5 t_6 K w

def ratio_rat_sd (neg_0 : Bool) (n_1_0 : Int) (n_1_1 : Int) (d_2_0 : Int) (d_2_1 : Int) (K : Int → Int → Bool → World → Prop) (w : World) : Prop :=
  let w1 : World := w.alloc (Obj.cells #[(Value.int .u64 n_1_0), (Value.int .u64 n_1_1)] 67)
  let w2 : World := w1.alloc (Obj.cells #[(Value.int .u64 d_2_0), (Value.int .u64 d_2_1)] 67)
  let w3 : World := w2.alloc (Obj.cells #[(Value.int .i64 (0 : Int)), (Value.int .i64 (0 : Int))] 26)
  ∃ x4 : Int, w3.cell? (Addr.mk w.heap.size 0 none) = some (Value.int .u64 x4) ∧ cnd (decide (x4 > (0 : Int)))
    (ratio_rat_k0 (Addr.mk w2.heap.size 0 none) K w3)
    (∃ x5 : Int, w3.cell? (Addr.mk w1.heap.size 0 none) = some (Value.int .u64 x5) ∧ cnd (decide (x5 > (0 : Int)))
    (ratio_rat_k0 (Addr.mk w2.heap.size 0 none) K w3)
    (∃ x6 : Int, w3.cell? (Addr.mk w1.heap.size 1 none) = some (Value.int .u64 x6) ∧ cnd (decide (x6 > (9223372036854775807 : Int)))
    (ratio_rat_k0 (Addr.mk w2.heap.size 0 none) K w3)
    (∃ x7 : Int, w3.cell? (Addr.mk w.heap.size 1 none) = some (Value.int .u64 x7) ∧ cnd (decide (x7 > (9223372036854775808 : Int)))
    (ratio_rat_k0 (Addr.mk w2.heap.size 0 none) K w3)
    (∃ x8 : Int, w3.cell? (Addr.mk w.heap.size 1 none) = some (Value.int .u64 x8) ∧ cnd (x8 == (9223372036854775808 : Int))
    (cnd (!neg_0)
    (ratio_rat_k0 (Addr.mk w2.heap.size 0 none) K w3)
    (ratio_rat_k1 neg_0 (Addr.mk w.heap.size 0 none) (Addr.mk w1.heap.size 0 none) (Addr.mk w2.heap.size 0 none) K w3))
    (ratio_rat_k1 neg_0 (Addr.mk w.heap.size 0 none) (Addr.mk w1.heap.size 0 none) (Addr.mk w2.heap.size 0 none) K w3)))))

structure ratio_rat_sh (neg_0 : Bool) (n_1_0 : Int) (n_1_1 : Int) (d_2_0 : Int) (d_2_1 : Int) (K : Int → Int → Bool → World → Prop) (w : World) : Prop where
  out : ratio_rat_sd neg_0 n_1_0 n_1_1 d_2_0 d_2_1 K w

def ratio_rat_P0 (Kv : VW) (ρ : Rho) (vs : List Value) (w : World) : Prop :=
  match ρ, vs with
  | _, [.pointer (some t_6)] => ratio_rat_k0 t_6  (fun (r0_0 : Int) (r0_1 : Int) (r1 : Bool) (w' : World) => Kv (Value.tuple #[(Value.agg #[(Value.int .i64 r0_0), (Value.int .i64 r0_1)]), (Value.bool r1)]) w') w
  | _, _ => False

def ratio_rat_P1 (Kv : VW) (ρ : Rho) (vs : List Value) (w : World) : Prop :=
  match ρ, vs with
  | _, [.bool neg_0, .pointer (some n_4), .pointer (some d_5), .pointer (some t_6)] => ratio_rat_k1 neg_0 n_4 d_5 t_6  (fun (r0_0 : Int) (r0_1 : Int) (r1 : Bool) (w' : World) => Kv (Value.tuple #[(Value.agg #[(Value.int .i64 r0_0), (Value.int .i64 r0_1)]), (Value.bool r1)]) w') w
  | _, _ => False

def ratio_rat_P2 (Kv : VW) (ρ : Rho) (vs : List Value) (w : World) : Prop :=
  match ρ, vs with
  | _, [.pointer (some d_5), .pointer (some t_6), .int .i64 num_8] => ratio_rat_k2 d_5 t_6 num_8  (fun (r0_0 : Int) (r0_1 : Int) (r1 : Bool) (w' : World) => Kv (Value.tuple #[(Value.agg #[(Value.int .i64 r0_0), (Value.int .i64 r0_1)]), (Value.bool r1)]) w') w
  | _, _ => False

noncomputable def ratio_rat_S : Pw.Spec := fun vs w Kv =>
  match vs with
  | [.bool neg_0, .agg ⟨[.int .u64 n_1_0, .int .u64 n_1_1]⟩, .agg ⟨[.int .u64 d_2_0, .int .u64 d_2_1]⟩] => ratio_rat_sh neg_0 n_1_0 n_1_1 d_2_0 d_2_1 (fun (r0_0 : Int) (r0_1 : Int) (r1 : Bool) (w' : World) => Kv (Value.tuple #[(Value.agg #[(Value.int .i64 r0_0), (Value.int .i64 r0_1)]), (Value.bool r1)]) w') w
  | _ => False

noncomputable def ratio_rat_E : Pw.Env := [(29, ratio_zero_S)]

noncomputable def ratio_rat_C : Code := (Tryz.f67.body).getD .skip

noncomputable def ratio_rat_A (Kv : VW) : Pw.A :=
  (A.seq (A.reg (RA.run (RA.run (RA.run (RA.run RA.done)))))
   (A.seq (A.seq (A.reg (RA.run (RA.run (RA.run (RA.run (RA.spl 12 (RA.skp (RA.skp (RA.skp (RA.run (RA.run (RA.skp (RA.skp (RA.skp (RA.run (RA.run (RA.skp (RA.skp (RA.skp (RA.run (RA.run (RA.skp (RA.skp (RA.skp (RA.skp (RA.skp (RA.skp (RA.skp (RA.run RA.done))))))))))))))))))))))) (RA.run (RA.run (RA.run (RA.run (RA.run (RA.spl 17 (RA.skp (RA.skp (RA.skp (RA.run (RA.run (RA.skp (RA.skp (RA.skp (RA.run (RA.run (RA.skp (RA.skp (RA.skp (RA.skp (RA.skp (RA.skp (RA.skp (RA.run RA.done)))))))))))))))))) (RA.run (RA.run (RA.run (RA.run (RA.run (RA.spl 22 (RA.skp (RA.skp (RA.skp (RA.run (RA.run (RA.skp (RA.skp (RA.skp (RA.skp (RA.skp (RA.skp (RA.skp (RA.run RA.done))))))))))))) (RA.run (RA.run (RA.run (RA.run (RA.run (RA.spl 27 (RA.skp (RA.skp (RA.skp (RA.skp (RA.skp (RA.skp (RA.skp (RA.run RA.done)))))))) (RA.run (RA.run (RA.run (RA.run (RA.spl 31 (RA.run (RA.run (RA.run (RA.run RA.done)))) (RA.skp (RA.skp (RA.run (RA.run RA.done)))))))))))))))))))))))))))))))))
   (A.cond (A.cut [6] (ratio_rat_P0 Kv) (A.seq (A.reg (RA.run (RA.run (RA.run RA.done))))
   A.leaf))
   A.leaf))
   (A.cut [0, 4, 5, 6] (ratio_rat_P1 Kv) (A.seq (A.reg (RA.run (RA.run (RA.raw (RA.run RA.done)))))
   (A.seq (A.seq (A.reg (RA.run RA.done))
   (A.cond (A.reg (RA.run (RA.raw (RA.run RA.done))))
   A.leaf))
   (A.cut [5, 6, 8] (ratio_rat_P2 Kv) (A.seq (A.reg (RA.run (RA.run (RA.run (RA.raw (RA.run (RA.run (RA.run RA.done))))))))
   A.leaf)))))))

noncomputable def ratio_rat_O (Kv : VW) : List Ob := (obs Tryz.prog ratio_rat_E 48 (ratio_rat_A Kv) ratio_rat_C (fun _ => retQ Tryz.prog Tryz.f67.results Kv))

theorem ratio_rat_e (Kv : VW) (neg_0 : Bool) (n_1_0 : Int) (n_1_1 : Int) (d_2_0 : Int) (d_2_1 : Int) (w : World) : ratio_rat_sd neg_0 n_1_0 n_1_1 d_2_0 d_2_1 (fun (r0_0 : Int) (r0_1 : Int) (r1 : Bool) (w' : World) => Kv (Value.tuple #[(Value.agg #[(Value.int .i64 r0_0), (Value.int .i64 r0_1)]), (Value.bool r1)]) w') w = W Tryz.prog ratio_rat_E 48 (ratio_rat_A Kv) ratio_rat_C [] (retQ Tryz.prog Tryz.f67.results Kv) [] (startS [(Value.bool neg_0), (Value.agg #[(Value.int .u64 n_1_0), (Value.int .u64 n_1_1)]), (Value.agg #[(Value.int .u64 d_2_0), (Value.int .u64 d_2_1)])]) w := by kernel_rfl

theorem ratio_rat_e0 (Kv : VW) (ρ : Rho) (t_6 : Addr) (w : World) : ratio_rat_k0d t_6  (fun (r0_0 : Int) (r0_1 : Int) (r1 : Bool) (w' : World) => Kv (Value.tuple #[(Value.agg #[(Value.int .i64 r0_0), (Value.int .i64 r0_1)]), (Value.bool r1)]) w') w = goalAt Tryz.prog ratio_rat_E 48 (ratio_rat_O Kv) 0 (ρ) [(Value.pointer (some t_6))] w := by kernel_rfl

theorem ratio_rat_q0 (Kv : VW) (ρ : Rho) (vs : List Value) (w : World) : labAt (ratio_rat_O Kv) 0 ρ vs w = ratio_rat_P0 Kv ρ vs w := by kernel_rfl

theorem ratio_rat_h0 (Kv : VW) : holdsAt Tryz.prog ratio_rat_E 48 (ratio_rat_O Kv) 0 := holdsAt_cut (.inl (by kernel_rfl)) (fun ρ vs w h => by
  rw [ratio_rat_q0] at h
  unfold ratio_rat_P0 at h
  split at h
  · rw [← ratio_rat_e0]; exact h.out
  · exact h.elim)

theorem ratio_rat_e1 (Kv : VW) (ρ : Rho) (neg_0 : Bool) (n_4 : Addr) (d_5 : Addr) (t_6 : Addr) (w : World) : ratio_rat_k1d neg_0 n_4 d_5 t_6  (fun (r0_0 : Int) (r0_1 : Int) (r1 : Bool) (w' : World) => Kv (Value.tuple #[(Value.agg #[(Value.int .i64 r0_0), (Value.int .i64 r0_1)]), (Value.bool r1)]) w') w = goalAt Tryz.prog ratio_rat_E 48 (ratio_rat_O Kv) 1 (ρ) [(Value.bool neg_0), (Value.pointer (some n_4)), (Value.pointer (some d_5)), (Value.pointer (some t_6))] w := by kernel_rfl

theorem ratio_rat_q1 (Kv : VW) (ρ : Rho) (vs : List Value) (w : World) : labAt (ratio_rat_O Kv) 1 ρ vs w = ratio_rat_P1 Kv ρ vs w := by kernel_rfl

theorem ratio_rat_h1 (Kv : VW) : holdsAt Tryz.prog ratio_rat_E 48 (ratio_rat_O Kv) 1 := holdsAt_cut (.inl (by kernel_rfl)) (fun ρ vs w h => by
  rw [ratio_rat_q1] at h
  unfold ratio_rat_P1 at h
  split at h
  · rw [← ratio_rat_e1]; exact h.out
  · exact h.elim)

theorem ratio_rat_e2 (Kv : VW) (ρ : Rho) (d_5 : Addr) (t_6 : Addr) (num_8 : Int) (w : World) : ratio_rat_k2d d_5 t_6 num_8  (fun (r0_0 : Int) (r0_1 : Int) (r1 : Bool) (w' : World) => Kv (Value.tuple #[(Value.agg #[(Value.int .i64 r0_0), (Value.int .i64 r0_1)]), (Value.bool r1)]) w') w = goalAt Tryz.prog ratio_rat_E 48 (ratio_rat_O Kv) 2 (ρ) [(Value.pointer (some d_5)), (Value.pointer (some t_6)), (Value.int .i64 num_8)] w := by kernel_rfl

theorem ratio_rat_q2 (Kv : VW) (ρ : Rho) (vs : List Value) (w : World) : labAt (ratio_rat_O Kv) 2 ρ vs w = ratio_rat_P2 Kv ρ vs w := by kernel_rfl

theorem ratio_rat_h2 (Kv : VW) : holdsAt Tryz.prog ratio_rat_E 48 (ratio_rat_O Kv) 2 := holdsAt_cut (.inl (by kernel_rfl)) (fun ρ vs w h => by
  rw [ratio_rat_q2] at h
  unfold ratio_rat_P2 at h
  split at h
  · rw [← ratio_rat_e2]; exact h.out
  · exact h.elim)

theorem ratio_rat_n (Kv : VW) : obAt (ratio_rat_O Kv) 3 = none := by kernel_rfl

theorem ratio_rat_h (Kv : VW) : ∀ k, holdsAt Tryz.prog ratio_rat_E 48 (ratio_rat_O Kv) k := fun k => match k with
  | 0 => ratio_rat_h0 Kv
  | 1 => ratio_rat_h1 Kv
  | 2 => ratio_rat_h2 Kv
  | _k + 3 => holdsAt_ge (ratio_rat_n Kv) (Nat.le_add_left _ _)

theorem ratio_rat_ok : Sound Tryz.prog 67 ratio_rat_S := ⟨Tryz.call67, fun vs w Kv h => by
  unfold ratio_rat_S at h
  split at h
  · have h := h.out
    rw [ratio_rat_e] at h
    exact calls_sound (Γ := ratio_rat_E) progMixed ⟨.inl ratio_zero_ok, trivial⟩ Tryz.func67 (code := ratio_rat_C) (by kernel_rfl) (ratio_rat_A Kv) Kv (holds_all (ratio_rat_h Kv)) (Nat.le_of_ble_eq_true (by kernel_rfl)) h
  · exact h.elim⟩

/-! ratio_lowest -/
def ratio_lowest_sd (f_0_0 : Bool) (f_0_1 : Int) (f_0_2 : Int) (K : Int → Int → Bool → World → Prop) (w : World) : Prop :=
  let w1 : World := w.alloc (Obj.cells #[(Value.bool f_0_0), (Value.int .u64 f_0_1), (Value.int .u64 f_0_2)] 61)
  let w2 : World := w1.alloc (Obj.cells #[(Value.int .i64 (0 : Int)), (Value.int .i64 (0 : Int))] 26)
  ∃ x3 : Int, w2.cell? (Addr.mk w.heap.size 1 none) = some (Value.int .u64 x3) ∧ ∃ x4 : Int, w2.cell? (Addr.mk w.heap.size 2 none) = some (Value.int .u64 x4) ∧ ratio_gcd_sh x3 x4 (fun (r6 : Int) (w5 : World) => let w7 : World := w5.drew
  ∃ S8 : World → Prop, S8 w7 ∧ ∃ x9 : Bool, (∀ w' : World, S8 w' → w'.cell? (Addr.mk w.heap.size 0 none) = some (Value.bool x9)) ∧ ∃ x10 : Int, (∀ w' : World, S8 w' → w'.cell? (Addr.mk w.heap.size 1 none) = some (Value.int .u64 x10)) ∧ r6 ≠ 0 ∧ inR .u64 (Int.tdiv x10 r6) ∧ ∃ x11 : Int, (∀ w' : World, S8 w' → w'.cell? (Addr.mk w.heap.size 2 none) = some (Value.int .u64 x11)) ∧ r6 ≠ 0 ∧ inR .u64 (Int.tdiv x11 r6) ∧ cnd x9
    (∃ x12 : Int, (∀ w' : World, S8 w' → w'.cell? (Addr.mk w.heap.size 1 none) = some (Value.int .u64 x12)) ∧ ratio_rat_sh (decide (x12 > (0 : Int))) (0 : Int) (Int.tdiv x10 r6) (0 : Int) (Int.tdiv x11 r6) (fun (r14_0 : Int) (r14_1 : Int) (r15 : Bool) (w13 : World) => S8 w13 ∧ wrOk w13 (Addr.mk w1.heap.size 0 none) ∧ 
  (let w16 : World := w13.setCell (Addr.mk w1.heap.size 0 none) (Value.int .i64 r14_0)
  wrOk w16 (Addr.mk w1.heap.size 1 none) ∧ 
  (let w17 : World := w16.setCell (Addr.mk w1.heap.size 1 none) (Value.int .i64 r14_1)
  ∃ x23 : Int, w17.cell? (Addr.mk w1.heap.size 0 none) = some (Value.int .i64 x23) ∧ ∃ x24 : Int, w17.cell? (Addr.mk w1.heap.size 1 none) = some (Value.int .i64 x24) ∧ K x23 x24 r15 w17))) w7)
    (ratio_rat_sh false (0 : Int) (Int.tdiv x10 r6) (0 : Int) (Int.tdiv x11 r6) (fun (r19_0 : Int) (r19_1 : Int) (r20 : Bool) (w18 : World) => S8 w18 ∧ wrOk w18 (Addr.mk w1.heap.size 0 none) ∧ 
  (let w21 : World := w18.setCell (Addr.mk w1.heap.size 0 none) (Value.int .i64 r19_0)
  wrOk w21 (Addr.mk w1.heap.size 1 none) ∧ 
  (let w22 : World := w21.setCell (Addr.mk w1.heap.size 1 none) (Value.int .i64 r19_1)
  ∃ x25 : Int, w22.cell? (Addr.mk w1.heap.size 0 none) = some (Value.int .i64 x25) ∧ ∃ x26 : Int, w22.cell? (Addr.mk w1.heap.size 1 none) = some (Value.int .i64 x26) ∧ K x25 x26 r20 w22))) w7)) w2

structure ratio_lowest_sh (f_0_0 : Bool) (f_0_1 : Int) (f_0_2 : Int) (K : Int → Int → Bool → World → Prop) (w : World) : Prop where
  out : ratio_lowest_sd f_0_0 f_0_1 f_0_2 K w

noncomputable def ratio_lowest_S : Pw.Spec := fun vs w Kv =>
  match vs with
  | [.agg ⟨[.bool f_0_0, .int .u64 f_0_1, .int .u64 f_0_2]⟩] => ratio_lowest_sh f_0_0 f_0_1 f_0_2 (fun (r0_0 : Int) (r0_1 : Int) (r1 : Bool) (w' : World) => Kv (Value.tuple #[(Value.agg #[(Value.int .i64 r0_0), (Value.int .i64 r0_1)]), (Value.bool r1)]) w') w
  | _ => False

noncomputable def ratio_lowest_E : Pw.Env := [(55, ratio_gcd_S), (67, ratio_rat_S)]

noncomputable def ratio_lowest_C : Code := (Tryz.f40.body).getD .skip

noncomputable def ratio_lowest_A (_Kv : VW) : Pw.A :=
  (A.seq (A.reg (RA.run (RA.run (RA.run RA.done))))
   (A.seq (A.reg (RA.run (RA.run (RA.run (RA.run (RA.run (RA.run RA.done)))))))
   (A.seq (A.drw (DA.pur 0 (DA.pur 1 (DA.pur 2 (DA.pur 7 (DA.pur 8 (DA.pur 9 (DA.pur 10 (DA.pur 11 (DA.pur 12 (DA.pur 13 (DA.pur 14 (DA.pur 15 (DA.pur 16 (DA.spl 12 (DA.pur 3 (DA.pur 4 (DA.pur 5 (DA.pur 6 (DA.eff 17 (DA.pur 18 (DA.pur 19 (DA.eff 20 (DA.pur 21 DA.done))))))))) (DA.skp 3 (DA.skp 4 (DA.skp 5 (DA.pur 6 (DA.eff 17 (DA.pur 18 (DA.pur 19 (DA.eff 20 (DA.pur 21 DA.done))))))))))))))))))))))))
   A.leaf)))

noncomputable def ratio_lowest_O (Kv : VW) : List Ob := (obs Tryz.prog ratio_lowest_E 30 (ratio_lowest_A Kv) ratio_lowest_C (fun _ => retQ Tryz.prog Tryz.f40.results Kv))

theorem ratio_lowest_e (Kv : VW) (f_0_0 : Bool) (f_0_1 : Int) (f_0_2 : Int) (w : World) : ratio_lowest_sd f_0_0 f_0_1 f_0_2 (fun (r0_0 : Int) (r0_1 : Int) (r1 : Bool) (w' : World) => Kv (Value.tuple #[(Value.agg #[(Value.int .i64 r0_0), (Value.int .i64 r0_1)]), (Value.bool r1)]) w') w = W Tryz.prog ratio_lowest_E 30 (ratio_lowest_A Kv) ratio_lowest_C [] (retQ Tryz.prog Tryz.f40.results Kv) [] (startS [(Value.agg #[(Value.bool f_0_0), (Value.int .u64 f_0_1), (Value.int .u64 f_0_2)])]) w := by kernel_rfl

theorem ratio_lowest_n (Kv : VW) : obAt (ratio_lowest_O Kv) 0 = none := by kernel_rfl

theorem ratio_lowest_h (Kv : VW) : ∀ k, holdsAt Tryz.prog ratio_lowest_E 30 (ratio_lowest_O Kv) k := fun _ => holdsAt_ge (ratio_lowest_n Kv) (Nat.zero_le _)

theorem ratio_lowest_ok : Sound Tryz.prog 40 ratio_lowest_S := ⟨Tryz.call40, fun vs w Kv h => by
  unfold ratio_lowest_S at h
  split at h
  · have h := h.out
    rw [ratio_lowest_e] at h
    exact calls_sound (Γ := ratio_lowest_E) progMixed ⟨.inl ratio_gcd_ok, .inl ratio_rat_ok, trivial⟩ Tryz.func40 (code := ratio_lowest_C) (by kernel_rfl) (ratio_lowest_A Kv) Kv (holds_all (ratio_lowest_h Kv)) (Nat.le_of_ble_eq_true (by kernel_rfl)) h
  · exact h.elim⟩

/-! ratio_Make -/
def ratio_Make_sd (num_0 : Int) (den_1 : Int) (K : Int → Int → Bool → World → Prop) (w : World) : Prop :=
  let w1 : World := w.alloc (Obj.cells #[(Value.int .i64 (0 : Int)), (Value.int .i64 (0 : Int))] 26)
  cnd (den_1 == (0 : Int))
    (ratio_zero_sh (fun (r3_0 : Int) (r3_1 : Int) (w2 : World) => wrOk w2 (Addr.mk w.heap.size 0 none) ∧ 
  (let w4 : World := w2.setCell (Addr.mk w.heap.size 0 none) (Value.int .i64 r3_0)
  wrOk w4 (Addr.mk w.heap.size 1 none) ∧ 
  (let w5 : World := w4.setCell (Addr.mk w.heap.size 1 none) (Value.int .i64 r3_1)
  ∃ x6 : Int, w5.cell? (Addr.mk w.heap.size 0 none) = some (Value.int .i64 x6) ∧ ∃ x7 : Int, w5.cell? (Addr.mk w.heap.size 1 none) = some (Value.int .i64 x7) ∧ K x6 x7 false w5))) w1)
    (ratio_size_sh num_0 (fun (r9 : Int) (w8 : World) => ratio_size_sh den_1 (fun (r11 : Int) (w10 : World) => ratio_lowest_sh (!((decide (num_0 < (0 : Int))) == (decide (den_1 < (0 : Int))))) r9 r11 (fun (r13_0 : Int) (r13_1 : Int) (r14 : Bool) (w12 : World) => wrOk w12 (Addr.mk w.heap.size 0 none) ∧ 
  (let w15 : World := w12.setCell (Addr.mk w.heap.size 0 none) (Value.int .i64 r13_0)
  wrOk w15 (Addr.mk w.heap.size 1 none) ∧ 
  (let w16 : World := w15.setCell (Addr.mk w.heap.size 1 none) (Value.int .i64 r13_1)
  ∃ x17 : Int, w16.cell? (Addr.mk w.heap.size 0 none) = some (Value.int .i64 x17) ∧ ∃ x18 : Int, w16.cell? (Addr.mk w.heap.size 1 none) = some (Value.int .i64 x18) ∧ K x17 x18 r14 w16))) w10) w8) w1)

structure ratio_Make_sh (num_0 : Int) (den_1 : Int) (K : Int → Int → Bool → World → Prop) (w : World) : Prop where
  out : ratio_Make_sd num_0 den_1 K w

noncomputable def ratio_Make_S : Pw.Spec := fun vs w Kv =>
  match vs with
  | [.int .i64 num_0, .int .i64 den_1] => ratio_Make_sh num_0 den_1 (fun (r0_0 : Int) (r0_1 : Int) (r1 : Bool) (w' : World) => Kv (Value.tuple #[(Value.agg #[(Value.int .i64 r0_0), (Value.int .i64 r0_1)]), (Value.bool r1)]) w') w
  | _ => False

noncomputable def ratio_Make_E : Pw.Env := [(29, ratio_zero_S), (40, ratio_lowest_S), (41, ratio_size_S)]

noncomputable def ratio_Make_C : Code := (Tryz.f14.body).getD .skip

noncomputable def ratio_Make_A (_Kv : VW) : Pw.A :=
  (A.seq (A.reg (RA.run (RA.run RA.done)))
   (A.seq (A.seq (A.reg (RA.run (RA.run RA.done)))
   (A.cond (A.seq (A.reg (RA.run (RA.run (RA.run RA.done))))
   A.leaf)
   A.leaf))
   (A.seq (A.reg (RA.run (RA.run (RA.run (RA.run (RA.run (RA.run (RA.run (RA.run (RA.run (RA.run (RA.run (RA.run (RA.run (RA.run (RA.run RA.done))))))))))))))))
   A.leaf)))

noncomputable def ratio_Make_O (Kv : VW) : List Ob := (obs Tryz.prog ratio_Make_E 22 (ratio_Make_A Kv) ratio_Make_C (fun _ => retQ Tryz.prog Tryz.f14.results Kv))

theorem ratio_Make_e (Kv : VW) (num_0 : Int) (den_1 : Int) (w : World) : ratio_Make_sd num_0 den_1 (fun (r0_0 : Int) (r0_1 : Int) (r1 : Bool) (w' : World) => Kv (Value.tuple #[(Value.agg #[(Value.int .i64 r0_0), (Value.int .i64 r0_1)]), (Value.bool r1)]) w') w = W Tryz.prog ratio_Make_E 22 (ratio_Make_A Kv) ratio_Make_C [] (retQ Tryz.prog Tryz.f14.results Kv) [] (startS [(Value.int .i64 num_0), (Value.int .i64 den_1)]) w := by kernel_rfl

theorem ratio_Make_n (Kv : VW) : obAt (ratio_Make_O Kv) 0 = none := by kernel_rfl

theorem ratio_Make_h (Kv : VW) : ∀ k, holdsAt Tryz.prog ratio_Make_E 22 (ratio_Make_O Kv) k := fun _ => holdsAt_ge (ratio_Make_n Kv) (Nat.zero_le _)

theorem ratio_Make_ok : Sound Tryz.prog 14 ratio_Make_S := ⟨Tryz.call14, fun vs w Kv h => by
  unfold ratio_Make_S at h
  split at h
  · have h := h.out
    rw [ratio_Make_e] at h
    exact calls_sound (Γ := ratio_Make_E) progMixed ⟨.inl ratio_zero_ok, .inl ratio_lowest_ok, .inl ratio_size_ok, trivial⟩ Tryz.func14 (code := ratio_Make_C) (by kernel_rfl) (ratio_Make_A Kv) Kv (holds_all (ratio_Make_h Kv)) (Nat.le_of_ble_eq_true (by kernel_rfl)) h
  · exact h.elim⟩

/-! ratio_Right -/
def ratio_Right_sd (a_0_0 : Int) (a_0_1 : Int) (K : Bool → World → Prop) (w : World) : Prop :=
  let w1 : World := w.alloc (Obj.cells #[(Value.int .i64 a_0_0), (Value.int .i64 a_0_1)] 26)
  let w2 : World := w1.drew
  ∃ S3 : World → Prop, S3 w2 ∧ ∃ x4 : Int, (∀ w' : World, S3 w' → w'.cell? (Addr.mk w.heap.size 1 none) = some (Value.int .i64 x4)) ∧ cnd (decide (x4 > (0 : Int)))
    (∃ x5 : Int, (∀ w' : World, S3 w' → w'.cell? (Addr.mk w.heap.size 0 none) = some (Value.int .i64 x5)) ∧ ∃ x6 : Int, (∀ w' : World, S3 w' → w'.cell? (Addr.mk w.heap.size 1 none) = some (Value.int .i64 x6)) ∧ inR .u64 x6 ∧ ratio_size_sh x5 (fun (r8 : Int) (w7 : World) => S3 w7 ∧ ratio_gcd_sh r8 x6 (fun (r10 : Int) (w9 : World) => S3 w9 ∧ K (r10 == (1 : Int)) w9) w7) w2)
    (K false w2)

structure ratio_Right_sh (a_0_0 : Int) (a_0_1 : Int) (K : Bool → World → Prop) (w : World) : Prop where
  out : ratio_Right_sd a_0_0 a_0_1 K w

noncomputable def ratio_Right_S : Pw.Spec := fun vs w Kv =>
  match vs with
  | [.agg ⟨[.int .i64 a_0_0, .int .i64 a_0_1]⟩] => ratio_Right_sh a_0_0 a_0_1 (fun (r0 : Bool) (w' : World) => Kv (Value.bool r0) w') w
  | _ => False

noncomputable def ratio_Right_E : Pw.Env := [(41, ratio_size_S), (55, ratio_gcd_S)]

noncomputable def ratio_Right_C : Code := (Tryz.f25.body).getD .skip

noncomputable def ratio_Right_A (_Kv : VW) : Pw.A :=
  (A.seq (A.reg (RA.run (RA.run RA.done)))
   (A.seq (A.drw (DA.pur 0 (DA.pur 1 (DA.pur 2 (DA.pur 3 (DA.spl 6 (DA.pur 4 (DA.pur 5 (DA.pur 7 (DA.pur 8 (DA.pur 9 (DA.eff 6 (DA.eff 10 (DA.pur 11 (DA.pur 12 (DA.pur 13 DA.done)))))))))) (DA.skp 4 (DA.skp 5 (DA.skp 7 (DA.skp 8 (DA.skp 9 (DA.skp 6 (DA.skp 10 (DA.skp 11 (DA.pur 12 (DA.pur 13 DA.done))))))))))))))))
   A.leaf))

noncomputable def ratio_Right_O (Kv : VW) : List Ob := (obs Tryz.prog ratio_Right_E 16 (ratio_Right_A Kv) ratio_Right_C (fun _ => retQ Tryz.prog Tryz.f25.results Kv))

theorem ratio_Right_e (Kv : VW) (a_0_0 : Int) (a_0_1 : Int) (w : World) : ratio_Right_sd a_0_0 a_0_1 (fun (r0 : Bool) (w' : World) => Kv (Value.bool r0) w') w = W Tryz.prog ratio_Right_E 16 (ratio_Right_A Kv) ratio_Right_C [] (retQ Tryz.prog Tryz.f25.results Kv) [] (startS [(Value.agg #[(Value.int .i64 a_0_0), (Value.int .i64 a_0_1)])]) w := by kernel_rfl

theorem ratio_Right_n (Kv : VW) : obAt (ratio_Right_O Kv) 0 = none := by kernel_rfl

theorem ratio_Right_h (Kv : VW) : ∀ k, holdsAt Tryz.prog ratio_Right_E 16 (ratio_Right_O Kv) k := fun _ => holdsAt_ge (ratio_Right_n Kv) (Nat.zero_le _)

theorem ratio_Right_ok : Sound Tryz.prog 25 ratio_Right_S := ⟨Tryz.call25, fun vs w Kv h => by
  unfold ratio_Right_S at h
  split at h
  · have h := h.out
    rw [ratio_Right_e] at h
    exact calls_sound (Γ := ratio_Right_E) progMixed ⟨.inl ratio_size_ok, .inl ratio_gcd_ok, trivial⟩ Tryz.func25 (code := ratio_Right_C) (by kernel_rfl) (ratio_Right_A Kv) Kv (holds_all (ratio_Right_h Kv)) (Nat.le_of_ble_eq_true (by kernel_rfl)) h
  · exact h.elim⟩

/-! ratio_both -/
def ratio_both_sd (a_0_0 : Int) (a_0_1 : Int) (b_1_0 : Int) (b_1_1 : Int) (K : Bool → World → Prop) (w : World) : Prop :=
  let w1 : World := w.alloc (Obj.cells #[(Value.int .i64 a_0_0), (Value.int .i64 a_0_1)] 26)
  let w2 : World := w1.alloc (Obj.cells #[(Value.int .i64 b_1_0), (Value.int .i64 b_1_1)] 26)
  ∃ x3 : Int, w2.cell? (Addr.mk w.heap.size 0 none) = some (Value.int .i64 x3) ∧ ∃ x4 : Int, w2.cell? (Addr.mk w.heap.size 1 none) = some (Value.int .i64 x4) ∧ ratio_Right_sh x3 x4 (fun (r6 : Bool) (w5 : World) => cnd r6
    (∃ x7 : Int, w5.cell? (Addr.mk w1.heap.size 0 none) = some (Value.int .i64 x7) ∧ ∃ x8 : Int, w5.cell? (Addr.mk w1.heap.size 1 none) = some (Value.int .i64 x8) ∧ ratio_Right_sh x7 x8 (fun (r10 : Bool) (w9 : World) => K r10 w9) w5)
    (K false w5)) w2

structure ratio_both_sh (a_0_0 : Int) (a_0_1 : Int) (b_1_0 : Int) (b_1_1 : Int) (K : Bool → World → Prop) (w : World) : Prop where
  out : ratio_both_sd a_0_0 a_0_1 b_1_0 b_1_1 K w

noncomputable def ratio_both_S : Pw.Spec := fun vs w Kv =>
  match vs with
  | [.agg ⟨[.int .i64 a_0_0, .int .i64 a_0_1]⟩, .agg ⟨[.int .i64 b_1_0, .int .i64 b_1_1]⟩] => ratio_both_sh a_0_0 a_0_1 b_1_0 b_1_1 (fun (r0 : Bool) (w' : World) => Kv (Value.bool r0) w') w
  | _ => False

noncomputable def ratio_both_E : Pw.Env := [(25, ratio_Right_S)]

noncomputable def ratio_both_C : Code := (Tryz.f46.body).getD .skip

noncomputable def ratio_both_A (_Kv : VW) : Pw.A :=
  (A.seq (A.reg (RA.run (RA.run (RA.run RA.done))))
   (A.seq (A.reg (RA.run (RA.run (RA.run (RA.spl 7 (RA.run (RA.run (RA.run (RA.run RA.done)))) (RA.skp (RA.skp (RA.run (RA.run RA.done)))))))))
   A.leaf))

noncomputable def ratio_both_O (Kv : VW) : List Ob := (obs Tryz.prog ratio_both_E 11 (ratio_both_A Kv) ratio_both_C (fun _ => retQ Tryz.prog Tryz.f46.results Kv))

theorem ratio_both_e (Kv : VW) (a_0_0 : Int) (a_0_1 : Int) (b_1_0 : Int) (b_1_1 : Int) (w : World) : ratio_both_sd a_0_0 a_0_1 b_1_0 b_1_1 (fun (r0 : Bool) (w' : World) => Kv (Value.bool r0) w') w = W Tryz.prog ratio_both_E 11 (ratio_both_A Kv) ratio_both_C [] (retQ Tryz.prog Tryz.f46.results Kv) [] (startS [(Value.agg #[(Value.int .i64 a_0_0), (Value.int .i64 a_0_1)]), (Value.agg #[(Value.int .i64 b_1_0), (Value.int .i64 b_1_1)])]) w := by kernel_rfl

theorem ratio_both_n (Kv : VW) : obAt (ratio_both_O Kv) 0 = none := by kernel_rfl

theorem ratio_both_h (Kv : VW) : ∀ k, holdsAt Tryz.prog ratio_both_E 11 (ratio_both_O Kv) k := fun _ => holdsAt_ge (ratio_both_n Kv) (Nat.zero_le _)

theorem ratio_both_ok : Sound Tryz.prog 46 ratio_both_S := ⟨Tryz.call46, fun vs w Kv h => by
  unfold ratio_both_S at h
  split at h
  · have h := h.out
    rw [ratio_both_e] at h
    exact calls_sound (Γ := ratio_both_E) progMixed ⟨.inl ratio_Right_ok, trivial⟩ Tryz.func46 (code := ratio_both_C) (by kernel_rfl) (ratio_both_A Kv) Kv (holds_all (ratio_both_h Kv)) (Nat.le_of_ble_eq_true (by kernel_rfl)) h
  · exact h.elim⟩

/-! ratio_of -/
def ratio_of_sd (a_0_0 : Int) (a_0_1 : Int) (K : Bool → Int → Int → World → Prop) (w : World) : Prop :=
  let w1 : World := w.alloc (Obj.cells #[(Value.int .i64 a_0_0), (Value.int .i64 a_0_1)] 26)
  let w2 : World := w1.alloc (Obj.cells #[(Value.bool false), (Value.int .u64 (0 : Int)), (Value.int .u64 (0 : Int))] 61)
  let w3 : World := w2.drew
  ∃ S4 : World → Prop, S4 w3 ∧ ∃ x5 : Int, (∀ w' : World, S4 w' → w'.cell? (Addr.mk w.heap.size 0 none) = some (Value.int .i64 x5)) ∧ ∃ x6 : Int, (∀ w' : World, S4 w' → w'.cell? (Addr.mk w.heap.size 0 none) = some (Value.int .i64 x6)) ∧ ∃ x7 : Int, (∀ w' : World, S4 w' → w'.cell? (Addr.mk w.heap.size 1 none) = some (Value.int .i64 x7)) ∧ ratio_size_sh x6 (fun (r9 : Int) (w8 : World) => S4 w8 ∧ ratio_size_sh x7 (fun (r11 : Int) (w10 : World) => S4 w10 ∧ wrOk w10 (Addr.mk w1.heap.size 0 none) ∧ 
  (let w12 : World := w10.setCell (Addr.mk w1.heap.size 0 none) (Value.bool (decide (x5 < (0 : Int))))
  wrOk w12 (Addr.mk w1.heap.size 1 none) ∧ 
  (let w13 : World := w12.setCell (Addr.mk w1.heap.size 1 none) (Value.int .u64 r9)
  wrOk w13 (Addr.mk w1.heap.size 2 none) ∧ 
  (let w14 : World := w13.setCell (Addr.mk w1.heap.size 2 none) (Value.int .u64 r11)
  ∃ x15 : Bool, w14.cell? (Addr.mk w1.heap.size 0 none) = some (Value.bool x15) ∧ ∃ x16 : Int, w14.cell? (Addr.mk w1.heap.size 1 none) = some (Value.int .u64 x16) ∧ ∃ x17 : Int, w14.cell? (Addr.mk w1.heap.size 2 none) = some (Value.int .u64 x17) ∧ K x15 x16 x17 w14)))) w8) w3

structure ratio_of_sh (a_0_0 : Int) (a_0_1 : Int) (K : Bool → Int → Int → World → Prop) (w : World) : Prop where
  out : ratio_of_sd a_0_0 a_0_1 K w

noncomputable def ratio_of_S : Pw.Spec := fun vs w Kv =>
  match vs with
  | [.agg ⟨[.int .i64 a_0_0, .int .i64 a_0_1]⟩] => ratio_of_sh a_0_0 a_0_1 (fun (r0_0 : Bool) (r0_1 : Int) (r0_2 : Int) (w' : World) => Kv (Value.agg #[(Value.bool r0_0), (Value.int .u64 r0_1), (Value.int .u64 r0_2)]) w') w
  | _ => False

noncomputable def ratio_of_E : Pw.Env := [(41, ratio_size_S)]

noncomputable def ratio_of_C : Code := (Tryz.f47.body).getD .skip

noncomputable def ratio_of_A (_Kv : VW) : Pw.A :=
  (A.seq (A.reg (RA.run (RA.run RA.done)))
   (A.seq (A.drw (DA.pur 0 (DA.pur 1 (DA.pur 2 (DA.pur 3 (DA.pur 4 (DA.pur 6 (DA.pur 7 (DA.eff 5 (DA.eff 8 (DA.pur 9 (DA.eff 10 DA.done))))))))))))
   A.leaf))

noncomputable def ratio_of_O (Kv : VW) : List Ob := (obs Tryz.prog ratio_of_E 13 (ratio_of_A Kv) ratio_of_C (fun _ => retQ Tryz.prog Tryz.f47.results Kv))

theorem ratio_of_e (Kv : VW) (a_0_0 : Int) (a_0_1 : Int) (w : World) : ratio_of_sd a_0_0 a_0_1 (fun (r0_0 : Bool) (r0_1 : Int) (r0_2 : Int) (w' : World) => Kv (Value.agg #[(Value.bool r0_0), (Value.int .u64 r0_1), (Value.int .u64 r0_2)]) w') w = W Tryz.prog ratio_of_E 13 (ratio_of_A Kv) ratio_of_C [] (retQ Tryz.prog Tryz.f47.results Kv) [] (startS [(Value.agg #[(Value.int .i64 a_0_0), (Value.int .i64 a_0_1)])]) w := by kernel_rfl

theorem ratio_of_n (Kv : VW) : obAt (ratio_of_O Kv) 0 = none := by kernel_rfl

theorem ratio_of_h (Kv : VW) : ∀ k, holdsAt Tryz.prog ratio_of_E 13 (ratio_of_O Kv) k := fun _ => holdsAt_ge (ratio_of_n Kv) (Nat.zero_le _)

theorem ratio_of_ok : Sound Tryz.prog 47 ratio_of_S := ⟨Tryz.call47, fun vs w Kv h => by
  unfold ratio_of_S at h
  split at h
  · have h := h.out
    rw [ratio_of_e] at h
    exact calls_sound (Γ := ratio_of_E) progMixed ⟨.inl ratio_size_ok, trivial⟩ Tryz.func47 (code := ratio_of_C) (by kernel_rfl) (ratio_of_A Kv) Kv (holds_all (ratio_of_h Kv)) (Nat.le_of_ble_eq_true (by kernel_rfl)) h
  · exact h.elim⟩

/-! ratio_checked -/
def ratio_checked_sd (a_0_0 : Int) (a_0_1 : Int) (b_1_0 : Int) (b_1_1 : Int) (run_2 : Value) (K : Int → Int → Bool → World → Prop) (w : World) : Prop :=
  let w1 : World := w.alloc (Obj.cells #[(Value.int .i64 a_0_0), (Value.int .i64 a_0_1)] 26)
  let w2 : World := w1.alloc (Obj.cells #[(Value.int .i64 b_1_0), (Value.int .i64 b_1_1)] 26)
  let w3 : World := w2.alloc (Obj.cells #[(Value.int .i64 (0 : Int)), (Value.int .i64 (0 : Int))] 26)
  ∃ x4 : Int, w3.cell? (Addr.mk w.heap.size 0 none) = some (Value.int .i64 x4) ∧ ∃ x5 : Int, w3.cell? (Addr.mk w.heap.size 1 none) = some (Value.int .i64 x5) ∧ ∃ x6 : Int, w3.cell? (Addr.mk w1.heap.size 0 none) = some (Value.int .i64 x6) ∧ ∃ x7 : Int, w3.cell? (Addr.mk w1.heap.size 1 none) = some (Value.int .i64 x7) ∧ ratio_both_sh x4 x5 x6 x7 (fun (r9 : Bool) (w8 : World) => cnd (!r9)
    (ratio_zero_sh (fun (r11_0 : Int) (r11_1 : Int) (w10 : World) => wrOk w10 (Addr.mk w2.heap.size 0 none) ∧ 
  (let w12 : World := w10.setCell (Addr.mk w2.heap.size 0 none) (Value.int .i64 r11_0)
  wrOk w12 (Addr.mk w2.heap.size 1 none) ∧ 
  (let w13 : World := w12.setCell (Addr.mk w2.heap.size 1 none) (Value.int .i64 r11_1)
  ∃ x14 : Int, w13.cell? (Addr.mk w2.heap.size 0 none) = some (Value.int .i64 x14) ∧ ∃ x15 : Int, w13.cell? (Addr.mk w2.heap.size 1 none) = some (Value.int .i64 x15) ∧ K x14 x15 false w13))) w8)
    (let w16 : World := w8.drew
  ∃ S17 : World → Prop, S17 w16 ∧ ∃ x18 : Int, (∀ w' : World, S17 w' → w'.cell? (Addr.mk w.heap.size 0 none) = some (Value.int .i64 x18)) ∧ ∃ x19 : Int, (∀ w' : World, S17 w' → w'.cell? (Addr.mk w.heap.size 1 none) = some (Value.int .i64 x19)) ∧ ∃ x20 : Int, (∀ w' : World, S17 w' → w'.cell? (Addr.mk w1.heap.size 0 none) = some (Value.int .i64 x20)) ∧ ∃ x21 : Int, (∀ w' : World, S17 w' → w'.cell? (Addr.mk w1.heap.size 1 none) = some (Value.int .i64 x21)) ∧ ratio_of_sh x18 x19 (fun (r23_0 : Bool) (r23_1 : Int) (r23_2 : Int) (w22 : World) => S17 w22 ∧ ratio_of_sh x20 x21 (fun (r25_0 : Bool) (r25_1 : Int) (r25_2 : Int) (w24 : World) => S17 w24 ∧ CallV Tryz.prog run_2 [(Value.agg #[(Value.bool r23_0), (Value.int .u64 r23_1), (Value.int .u64 r23_2)]), (Value.agg #[(Value.bool r25_0), (Value.int .u64 r25_1), (Value.int .u64 r25_2)])] w24 fun (u26 : Value) (w27 : World) => ∃ x29 : Int, ∃ x30 : Int, ∃ x31 : Bool, u26 = (Value.tuple #[(Value.agg #[(Value.int .i64 x29), (Value.int .i64 x30)]), (Value.bool x31)]) ∧ S17 w27 ∧ wrOk w27 (Addr.mk w2.heap.size 0 none) ∧ 
  (let w32 : World := w27.setCell (Addr.mk w2.heap.size 0 none) (Value.int .i64 x29)
  wrOk w32 (Addr.mk w2.heap.size 1 none) ∧ 
  (let w33 : World := w32.setCell (Addr.mk w2.heap.size 1 none) (Value.int .i64 x30)
  ∃ x34 : Int, w33.cell? (Addr.mk w2.heap.size 0 none) = some (Value.int .i64 x34) ∧ ∃ x35 : Int, w33.cell? (Addr.mk w2.heap.size 1 none) = some (Value.int .i64 x35) ∧ K x34 x35 x31 w33))) w22) w16)) w3

structure ratio_checked_sh (a_0_0 : Int) (a_0_1 : Int) (b_1_0 : Int) (b_1_1 : Int) (run_2 : Value) (K : Int → Int → Bool → World → Prop) (w : World) : Prop where
  out : ratio_checked_sd a_0_0 a_0_1 b_1_0 b_1_1 run_2 K w

noncomputable def ratio_checked_S : Pw.Spec := fun vs w Kv =>
  match vs with
  | [.agg ⟨[.int .i64 a_0_0, .int .i64 a_0_1]⟩, .agg ⟨[.int .i64 b_1_0, .int .i64 b_1_1]⟩, run_2] => ratio_checked_sh a_0_0 a_0_1 b_1_0 b_1_1 run_2 (fun (r0_0 : Int) (r0_1 : Int) (r1 : Bool) (w' : World) => Kv (Value.tuple #[(Value.agg #[(Value.int .i64 r0_0), (Value.int .i64 r0_1)]), (Value.bool r1)]) w') w
  | _ => False

noncomputable def ratio_checked_E : Pw.Env := [(29, ratio_zero_S), (46, ratio_both_S), (47, ratio_of_S)]

noncomputable def ratio_checked_C : Code := (Tryz.f42.body).getD .skip

noncomputable def ratio_checked_A (_Kv : VW) : Pw.A :=
  (A.seq (A.reg (RA.run (RA.run (RA.run (RA.run RA.done)))))
   (A.seq (A.seq (A.reg (RA.run (RA.run (RA.run (RA.run RA.done)))))
   (A.cond (A.seq (A.reg (RA.run (RA.run (RA.run RA.done))))
   A.leaf)
   A.leaf))
   (A.seq (A.drw (DA.pur 0 (DA.pur 1 (DA.pur 3 (DA.eff 2 (DA.eff 4 (DA.dyn 5 (Value.tuple #[(Value.agg #[(Value.int .i64 (0 : Int)), (Value.int .i64 (0 : Int))]), (Value.bool false)]) (DA.pur 6 (DA.pur 7 (DA.eff 8 (DA.pur 9 DA.done)))))))))))
   A.leaf)))

noncomputable def ratio_checked_O (Kv : VW) : List Ob := (obs Tryz.prog ratio_checked_E 21 (ratio_checked_A Kv) ratio_checked_C (fun _ => retQ Tryz.prog Tryz.f42.results Kv))

theorem ratio_checked_e (Kv : VW) (a_0_0 : Int) (a_0_1 : Int) (b_1_0 : Int) (b_1_1 : Int) (run_2 : Value) (w : World) : ratio_checked_sd a_0_0 a_0_1 b_1_0 b_1_1 run_2 (fun (r0_0 : Int) (r0_1 : Int) (r1 : Bool) (w' : World) => Kv (Value.tuple #[(Value.agg #[(Value.int .i64 r0_0), (Value.int .i64 r0_1)]), (Value.bool r1)]) w') w = W Tryz.prog ratio_checked_E 21 (ratio_checked_A Kv) ratio_checked_C [] (retQ Tryz.prog Tryz.f42.results Kv) [] (startS [(Value.agg #[(Value.int .i64 a_0_0), (Value.int .i64 a_0_1)]), (Value.agg #[(Value.int .i64 b_1_0), (Value.int .i64 b_1_1)]), run_2]) w := by kernel_rfl

theorem ratio_checked_n (Kv : VW) : obAt (ratio_checked_O Kv) 0 = none := by kernel_rfl

theorem ratio_checked_h (Kv : VW) : ∀ k, holdsAt Tryz.prog ratio_checked_E 21 (ratio_checked_O Kv) k := fun _ => holdsAt_ge (ratio_checked_n Kv) (Nat.zero_le _)

theorem ratio_checked_ok : Sound Tryz.prog 42 ratio_checked_S := ⟨Tryz.call42, fun vs w Kv h => by
  unfold ratio_checked_S at h
  split at h
  · have h := h.out
    rw [ratio_checked_e] at h
    exact calls_sound (Γ := ratio_checked_E) progMixed ⟨.inl ratio_zero_ok, .inl ratio_both_ok, .inl ratio_of_ok, trivial⟩ Tryz.func42 (code := ratio_checked_C) (by kernel_rfl) (ratio_checked_A Kv) Kv (holds_all (ratio_checked_h Kv)) (Nat.le_of_ble_eq_true (by kernel_rfl)) h
  · exact h.elim⟩

/-! bits_Mul64 -/
def bits_Mul64_sd (x_0 : Int) (y_1 : Int) (K : Int → Int → World → Prop) (w : World) : Prop :=
  0 ≤ (32 : Int) ∧ 0 ≤ (32 : Int) ∧ 0 ≤ (32 : Int) ∧ 0 ≤ (32 : Int) ∧ 0 ≤ (32 : Int) ∧ K (IntKind.wrap .u64 ((IntKind.wrap .u64 ((IntKind.wrap .u64 ((Int.fdiv x_0 (2 ^ (min 32 (IntKind.bits .u64)))) * (Int.fdiv y_1 (2 ^ (min 32 (IntKind.bits .u64)))))) + (Int.fdiv (IntKind.wrap .u64 ((IntKind.wrap .u64 ((Int.fdiv x_0 (2 ^ (min 32 (IntKind.bits .u64)))) * (IntKind.wrap .u64 (((BitVec.ofInt (IntKind.bits .u64) y_1 &&& BitVec.ofInt (IntKind.bits .u64) (4294967295 : Int))).toNat : Int)))) + (Int.fdiv (IntKind.wrap .u64 ((IntKind.wrap .u64 (((BitVec.ofInt (IntKind.bits .u64) x_0 &&& BitVec.ofInt (IntKind.bits .u64) (4294967295 : Int))).toNat : Int)) * (IntKind.wrap .u64 (((BitVec.ofInt (IntKind.bits .u64) y_1 &&& BitVec.ofInt (IntKind.bits .u64) (4294967295 : Int))).toNat : Int)))) (2 ^ (min 32 (IntKind.bits .u64)))))) (2 ^ (min 32 (IntKind.bits .u64)))))) + (Int.fdiv (IntKind.wrap .u64 ((IntKind.wrap .u64 (((BitVec.ofInt (IntKind.bits .u64) (IntKind.wrap .u64 ((IntKind.wrap .u64 ((Int.fdiv x_0 (2 ^ (min 32 (IntKind.bits .u64)))) * (IntKind.wrap .u64 (((BitVec.ofInt (IntKind.bits .u64) y_1 &&& BitVec.ofInt (IntKind.bits .u64) (4294967295 : Int))).toNat : Int)))) + (Int.fdiv (IntKind.wrap .u64 ((IntKind.wrap .u64 (((BitVec.ofInt (IntKind.bits .u64) x_0 &&& BitVec.ofInt (IntKind.bits .u64) (4294967295 : Int))).toNat : Int)) * (IntKind.wrap .u64 (((BitVec.ofInt (IntKind.bits .u64) y_1 &&& BitVec.ofInt (IntKind.bits .u64) (4294967295 : Int))).toNat : Int)))) (2 ^ (min 32 (IntKind.bits .u64)))))) &&& BitVec.ofInt (IntKind.bits .u64) (4294967295 : Int))).toNat : Int)) + (IntKind.wrap .u64 ((IntKind.wrap .u64 (((BitVec.ofInt (IntKind.bits .u64) x_0 &&& BitVec.ofInt (IntKind.bits .u64) (4294967295 : Int))).toNat : Int)) * (Int.fdiv y_1 (2 ^ (min 32 (IntKind.bits .u64)))))))) (2 ^ (min 32 (IntKind.bits .u64)))))) (IntKind.wrap .u64 (x_0 * y_1)) w

structure bits_Mul64_sh (x_0 : Int) (y_1 : Int) (K : Int → Int → World → Prop) (w : World) : Prop where
  out : bits_Mul64_sd x_0 y_1 K w

noncomputable def bits_Mul64_S : Pw.Spec := fun vs w Kv =>
  match vs with
  | [.int .u64 x_0, .int .u64 y_1] => bits_Mul64_sh x_0 y_1 (fun (r0 : Int) (r1 : Int) (w' : World) => Kv (Value.tuple #[(Value.int .u64 r0), (Value.int .u64 r1)]) w') w
  | _ => False

noncomputable def bits_Mul64_E : Pw.Env := []

noncomputable def bits_Mul64_C : Code := (Tryz.f74.body).getD .skip

noncomputable def bits_Mul64_A (_Kv : VW) : Pw.A :=
  (A.seq (A.reg (RA.run (RA.run RA.done)))
   (A.seq (A.reg (RA.run (RA.run (RA.run RA.done))))
   (A.seq (A.reg (RA.run (RA.run (RA.run RA.done))))
   (A.seq (A.reg (RA.run (RA.run (RA.run RA.done))))
   (A.seq (A.reg (RA.run (RA.run (RA.run RA.done))))
   (A.seq (A.reg (RA.run (RA.run (RA.raw (RA.run RA.done)))))
   (A.seq (A.reg (RA.run (RA.run (RA.raw (RA.run (RA.run (RA.raw (RA.run RA.done))))))))
   (A.seq (A.reg (RA.run (RA.run (RA.run RA.done))))
   (A.seq (A.reg (RA.run (RA.run (RA.run RA.done))))
   (A.seq (A.reg (RA.run (RA.run (RA.run (RA.raw (RA.raw (RA.run RA.done)))))))
   (A.seq (A.reg (RA.run (RA.run (RA.raw (RA.run (RA.raw (RA.run (RA.run (RA.raw (RA.run RA.done))))))))))
   (A.seq (A.reg (RA.run (RA.run (RA.raw (RA.run RA.done)))))
   A.leaf))))))))))))

noncomputable def bits_Mul64_O (Kv : VW) : List Ob := (obs Tryz.prog bits_Mul64_E 51 (bits_Mul64_A Kv) bits_Mul64_C (fun _ => retQ Tryz.prog Tryz.f74.results Kv))

theorem bits_Mul64_e (Kv : VW) (x_0 : Int) (y_1 : Int) (w : World) : bits_Mul64_sd x_0 y_1 (fun (r0 : Int) (r1 : Int) (w' : World) => Kv (Value.tuple #[(Value.int .u64 r0), (Value.int .u64 r1)]) w') w = W Tryz.prog bits_Mul64_E 51 (bits_Mul64_A Kv) bits_Mul64_C [] (retQ Tryz.prog Tryz.f74.results Kv) [] (startS [(Value.int .u64 x_0), (Value.int .u64 y_1)]) w := by kernel_rfl

theorem bits_Mul64_n (Kv : VW) : obAt (bits_Mul64_O Kv) 0 = none := by kernel_rfl

theorem bits_Mul64_h (Kv : VW) : ∀ k, holdsAt Tryz.prog bits_Mul64_E 51 (bits_Mul64_O Kv) k := fun _ => holdsAt_ge (bits_Mul64_n Kv) (Nat.zero_le _)

theorem bits_Mul64_ok : Sound Tryz.prog 74 bits_Mul64_S := ⟨Tryz.call74, fun vs w Kv h => by
  unfold bits_Mul64_S at h
  split at h
  · have h := h.out
    rw [bits_Mul64_e] at h
    exact calls_sound (Γ := bits_Mul64_E) progMixed trivial Tryz.func74 (code := bits_Mul64_C) (by kernel_rfl) (bits_Mul64_A Kv) Kv (holds_all (bits_Mul64_h Kv)) (Nat.le_of_ble_eq_true (by kernel_rfl)) h
  · exact h.elim⟩

/-! ratio_product -/
def ratio_product_sd (a_0 : Int) (b_1 : Int) (K : Int → Int → World → Prop) (w : World) : Prop :=
  let w1 : World := w.alloc (Obj.cells #[(Value.int .u64 (0 : Int)), (Value.int .u64 (0 : Int))] 67)
  bits_Mul64_sh a_0 b_1 (fun (r3 : Int) (r4 : Int) (w2 : World) => wrOk w2 (Addr.mk w.heap.size 0 none) ∧ 
  (let w5 : World := w2.setCell (Addr.mk w.heap.size 0 none) (Value.int .u64 r3)
  wrOk w5 (Addr.mk w.heap.size 1 none) ∧ 
  (let w6 : World := w5.setCell (Addr.mk w.heap.size 1 none) (Value.int .u64 r4)
  ∃ x7 : Int, w6.cell? (Addr.mk w.heap.size 0 none) = some (Value.int .u64 x7) ∧ ∃ x8 : Int, w6.cell? (Addr.mk w.heap.size 1 none) = some (Value.int .u64 x8) ∧ K x7 x8 w6))) w1

structure ratio_product_sh (a_0 : Int) (b_1 : Int) (K : Int → Int → World → Prop) (w : World) : Prop where
  out : ratio_product_sd a_0 b_1 K w

noncomputable def ratio_product_S : Pw.Spec := fun vs w Kv =>
  match vs with
  | [.int .u64 a_0, .int .u64 b_1] => ratio_product_sh a_0 b_1 (fun (r0_0 : Int) (r0_1 : Int) (w' : World) => Kv (Value.agg #[(Value.int .u64 r0_0), (Value.int .u64 r0_1)]) w') w
  | _ => False

noncomputable def ratio_product_E : Pw.Env := [(74, bits_Mul64_S)]

noncomputable def ratio_product_C : Code := (Tryz.f50.body).getD .skip

noncomputable def ratio_product_A (_Kv : VW) : Pw.A :=
  (A.seq (A.reg (RA.run RA.done))
   (A.seq (A.reg (RA.run (RA.run (RA.run (RA.run (RA.run (RA.run (RA.run (RA.run RA.done)))))))))
   (A.seq (A.reg (RA.run (RA.run (RA.run (RA.run RA.done)))))
   A.leaf)))

noncomputable def ratio_product_O (Kv : VW) : List Ob := (obs Tryz.prog ratio_product_E 16 (ratio_product_A Kv) ratio_product_C (fun _ => retQ Tryz.prog Tryz.f50.results Kv))

theorem ratio_product_e (Kv : VW) (a_0 : Int) (b_1 : Int) (w : World) : ratio_product_sd a_0 b_1 (fun (r0_0 : Int) (r0_1 : Int) (w' : World) => Kv (Value.agg #[(Value.int .u64 r0_0), (Value.int .u64 r0_1)]) w') w = W Tryz.prog ratio_product_E 16 (ratio_product_A Kv) ratio_product_C [] (retQ Tryz.prog Tryz.f50.results Kv) [] (startS [(Value.int .u64 a_0), (Value.int .u64 b_1)]) w := by kernel_rfl

theorem ratio_product_n (Kv : VW) : obAt (ratio_product_O Kv) 0 = none := by kernel_rfl

theorem ratio_product_h (Kv : VW) : ∀ k, holdsAt Tryz.prog ratio_product_E 16 (ratio_product_O Kv) k := fun _ => holdsAt_ge (ratio_product_n Kv) (Nat.zero_le _)

theorem ratio_product_ok : Sound Tryz.prog 50 ratio_product_S := ⟨Tryz.call50, fun vs w Kv h => by
  unfold ratio_product_S at h
  split at h
  · have h := h.out
    rw [ratio_product_e] at h
    exact calls_sound (Γ := ratio_product_E) progMixed ⟨.inl bits_Mul64_ok, trivial⟩ Tryz.func50 (code := ratio_product_C) (by kernel_rfl) (ratio_product_A Kv) Kv (holds_all (ratio_product_h Kv)) (Nat.le_of_ble_eq_true (by kernel_rfl)) h
  · exact h.elim⟩

/-! ratio_wide_add -/
def ratio_wide_add_sd (a_0_0 : Int) (a_0_1 : Int) (b_1_0 : Int) (b_1_1 : Int) (K : Int → Int → World → Prop) (w : World) : Prop :=
  let w1 : World := w.alloc (Obj.cells #[(Value.int .u64 a_0_0), (Value.int .u64 a_0_1)] 67)
  let w2 : World := w1.alloc (Obj.cells #[(Value.int .u64 b_1_0), (Value.int .u64 b_1_1)] 67)
  let w3 : World := w2.alloc (Obj.cells #[(Value.int .u64 (0 : Int)), (Value.int .u64 (0 : Int))] 67)
  ∃ x4 : Int, w3.cell? (Addr.mk w.heap.size 1 none) = some (Value.int .u64 x4) ∧ ∃ x5 : Int, w3.cell? (Addr.mk w1.heap.size 1 none) = some (Value.int .u64 x5) ∧ bits_Add64_sh x4 x5 (0 : Int) (fun (r7 : Int) (r8 : Int) (w6 : World) => ∃ x9 : Int, w6.cell? (Addr.mk w.heap.size 0 none) = some (Value.int .u64 x9) ∧ ∃ x10 : Int, w6.cell? (Addr.mk w1.heap.size 0 none) = some (Value.int .u64 x10) ∧ bits_Add64_sh x9 x10 r8 (fun (r12 : Int) (_r13 : Int) (w11 : World) => wrOk w11 (Addr.mk w2.heap.size 0 none) ∧ 
  (let w14 : World := w11.setCell (Addr.mk w2.heap.size 0 none) (Value.int .u64 r12)
  wrOk w14 (Addr.mk w2.heap.size 1 none) ∧ 
  (let w15 : World := w14.setCell (Addr.mk w2.heap.size 1 none) (Value.int .u64 r7)
  ∃ x16 : Int, w15.cell? (Addr.mk w2.heap.size 0 none) = some (Value.int .u64 x16) ∧ ∃ x17 : Int, w15.cell? (Addr.mk w2.heap.size 1 none) = some (Value.int .u64 x17) ∧ K x16 x17 w15))) w6) w3

structure ratio_wide_add_sh (a_0_0 : Int) (a_0_1 : Int) (b_1_0 : Int) (b_1_1 : Int) (K : Int → Int → World → Prop) (w : World) : Prop where
  out : ratio_wide_add_sd a_0_0 a_0_1 b_1_0 b_1_1 K w

noncomputable def ratio_wide_add_S : Pw.Spec := fun vs w Kv =>
  match vs with
  | [.agg ⟨[.int .u64 a_0_0, .int .u64 a_0_1]⟩, .agg ⟨[.int .u64 b_1_0, .int .u64 b_1_1]⟩] => ratio_wide_add_sh a_0_0 a_0_1 b_1_0 b_1_1 (fun (r0_0 : Int) (r0_1 : Int) (w' : World) => Kv (Value.agg #[(Value.int .u64 r0_0), (Value.int .u64 r0_1)]) w') w
  | _ => False

noncomputable def ratio_wide_add_E : Pw.Env := [(89, bits_Add64_S)]

noncomputable def ratio_wide_add_C : Code := (Tryz.f68.body).getD .skip

noncomputable def ratio_wide_add_A (_Kv : VW) : Pw.A :=
  (A.seq (A.reg (RA.run (RA.run (RA.run RA.done))))
   (A.seq (A.reg (RA.run (RA.run (RA.run (RA.run (RA.run (RA.run (RA.run (RA.run (RA.run (RA.run RA.done)))))))))))
   (A.seq (A.reg (RA.run (RA.run (RA.run (RA.run (RA.run (RA.run (RA.run (RA.run (RA.run (RA.run (RA.run RA.done))))))))))))
   (A.seq (A.reg (RA.run (RA.run (RA.run (RA.run RA.done)))))
   A.leaf))))

noncomputable def ratio_wide_add_O (Kv : VW) : List Ob := (obs Tryz.prog ratio_wide_add_E 29 (ratio_wide_add_A Kv) ratio_wide_add_C (fun _ => retQ Tryz.prog Tryz.f68.results Kv))

theorem ratio_wide_add_e (Kv : VW) (a_0_0 : Int) (a_0_1 : Int) (b_1_0 : Int) (b_1_1 : Int) (w : World) : ratio_wide_add_sd a_0_0 a_0_1 b_1_0 b_1_1 (fun (r0_0 : Int) (r0_1 : Int) (w' : World) => Kv (Value.agg #[(Value.int .u64 r0_0), (Value.int .u64 r0_1)]) w') w = W Tryz.prog ratio_wide_add_E 29 (ratio_wide_add_A Kv) ratio_wide_add_C [] (retQ Tryz.prog Tryz.f68.results Kv) [] (startS [(Value.agg #[(Value.int .u64 a_0_0), (Value.int .u64 a_0_1)]), (Value.agg #[(Value.int .u64 b_1_0), (Value.int .u64 b_1_1)])]) w := by kernel_rfl

theorem ratio_wide_add_n (Kv : VW) : obAt (ratio_wide_add_O Kv) 0 = none := by kernel_rfl

theorem ratio_wide_add_h (Kv : VW) : ∀ k, holdsAt Tryz.prog ratio_wide_add_E 29 (ratio_wide_add_O Kv) k := fun _ => holdsAt_ge (ratio_wide_add_n Kv) (Nat.zero_le _)

theorem ratio_wide_add_ok : Sound Tryz.prog 68 ratio_wide_add_S := ⟨Tryz.call68, fun vs w Kv h => by
  unfold ratio_wide_add_S at h
  split at h
  · have h := h.out
    rw [ratio_wide_add_e] at h
    exact calls_sound (Γ := ratio_wide_add_E) progMixed ⟨.inr bits_Add64_ok, trivial⟩ Tryz.func68 (code := ratio_wide_add_C) (by kernel_rfl) (ratio_wide_add_A Kv) Kv (holds_all (ratio_wide_add_h Kv)) (Nat.le_of_ble_eq_true (by kernel_rfl)) h
  · exact h.elim⟩

/-! cmp_isNaN_uint64 -/
def cmp_isNaN_uint64_sd (x_0 : Int) (K : Bool → World → Prop) (w : World) : Prop :=
  K (x_0 != x_0) w

structure cmp_isNaN_uint64_sh (x_0 : Int) (K : Bool → World → Prop) (w : World) : Prop where
  out : cmp_isNaN_uint64_sd x_0 K w

noncomputable def cmp_isNaN_uint64_S : Pw.Spec := fun vs w Kv =>
  match vs with
  | [.int .u64 x_0] => cmp_isNaN_uint64_sh x_0 (fun (r0 : Bool) (w' : World) => Kv (Value.bool r0) w') w
  | _ => False

noncomputable def cmp_isNaN_uint64_E : Pw.Env := []

noncomputable def cmp_isNaN_uint64_C : Code := (Tryz.f92.body).getD .skip

noncomputable def cmp_isNaN_uint64_A (_Kv : VW) : Pw.A :=
  (A.seq (A.reg (RA.run RA.done))
   (A.seq (A.reg (RA.run (RA.run (RA.run (RA.run RA.done)))))
   A.leaf))

noncomputable def cmp_isNaN_uint64_O (Kv : VW) : List Ob := (obs Tryz.prog cmp_isNaN_uint64_E 6 (cmp_isNaN_uint64_A Kv) cmp_isNaN_uint64_C (fun _ => retQ Tryz.prog Tryz.f92.results Kv))

theorem cmp_isNaN_uint64_e (Kv : VW) (x_0 : Int) (w : World) : cmp_isNaN_uint64_sd x_0 (fun (r0 : Bool) (w' : World) => Kv (Value.bool r0) w') w = W Tryz.prog cmp_isNaN_uint64_E 6 (cmp_isNaN_uint64_A Kv) cmp_isNaN_uint64_C [] (retQ Tryz.prog Tryz.f92.results Kv) [] (startS [(Value.int .u64 x_0)]) w := by kernel_rfl

theorem cmp_isNaN_uint64_n (Kv : VW) : obAt (cmp_isNaN_uint64_O Kv) 0 = none := by kernel_rfl

theorem cmp_isNaN_uint64_h (Kv : VW) : ∀ k, holdsAt Tryz.prog cmp_isNaN_uint64_E 6 (cmp_isNaN_uint64_O Kv) k := fun _ => holdsAt_ge (cmp_isNaN_uint64_n Kv) (Nat.zero_le _)

theorem cmp_isNaN_uint64_ok : Sound Tryz.prog 92 cmp_isNaN_uint64_S := ⟨Tryz.call92, fun vs w Kv h => by
  unfold cmp_isNaN_uint64_S at h
  split at h
  · have h := h.out
    rw [cmp_isNaN_uint64_e] at h
    exact calls_sound (Γ := cmp_isNaN_uint64_E) progMixed trivial Tryz.func92 (code := cmp_isNaN_uint64_C) (by kernel_rfl) (cmp_isNaN_uint64_A Kv) Kv (holds_all (cmp_isNaN_uint64_h Kv)) (Nat.le_of_ble_eq_true (by kernel_rfl)) h
  · exact h.elim⟩

/-! cmp_Compare_uint64 -/
def cmp_Compare_uint64_sd (x_0 : Int) (y_1 : Int) (K : Int → World → Prop) (w : World) : Prop :=
  cmp_isNaN_uint64_sh x_0 (fun (r2 : Bool) (w1 : World) => cmp_isNaN_uint64_sh y_1 (fun (r4 : Bool) (w3 : World) => cnd r2
    (cnd r4
    (K (0 : Int) w3)
    (K (-1 : Int) w3))
    (cnd r4
    (K (1 : Int) w3)
    (cnd (decide (x_0 < y_1))
    (K (-1 : Int) w3)
    (cnd (decide (x_0 > y_1))
    (K (1 : Int) w3)
    (K (0 : Int) w3))))) w1) w

structure cmp_Compare_uint64_sh (x_0 : Int) (y_1 : Int) (K : Int → World → Prop) (w : World) : Prop where
  out : cmp_Compare_uint64_sd x_0 y_1 K w

noncomputable def cmp_Compare_uint64_S : Pw.Spec := fun vs w Kv =>
  match vs with
  | [.int .u64 x_0, .int .u64 y_1] => cmp_Compare_uint64_sh x_0 y_1 (fun (r0 : Int) (w' : World) => Kv (Value.int .i64 r0) w') w
  | _ => False

noncomputable def cmp_Compare_uint64_E : Pw.Env := [(92, cmp_isNaN_uint64_S)]

noncomputable def cmp_Compare_uint64_C : Code := (Tryz.f73.body).getD .skip

noncomputable def cmp_Compare_uint64_A (_Kv : VW) : Pw.A :=
  (A.seq (A.reg (RA.run RA.done))
   (A.seq (A.reg (RA.run (RA.run (RA.run RA.done))))
   (A.seq (A.reg (RA.run (RA.run (RA.run RA.done))))
   (A.seq (A.seq (A.reg (RA.run RA.done))
   (A.cond (A.seq (A.seq (A.reg (RA.run RA.done))
   (A.cond (A.seq (A.reg (RA.run RA.done))
   A.leaf)
   A.leaf))
   (A.seq (A.reg (RA.run RA.done))
   A.leaf))
   A.leaf))
   (A.seq (A.seq (A.reg (RA.run RA.done))
   (A.cond (A.seq (A.reg (RA.run RA.done))
   A.leaf)
   A.leaf))
   (A.seq (A.seq (A.reg (RA.run (RA.run (RA.run RA.done))))
   (A.cond (A.seq (A.reg (RA.run RA.done))
   A.leaf)
   A.leaf))
   (A.seq (A.seq (A.reg (RA.run (RA.run (RA.run RA.done))))
   (A.cond (A.seq (A.reg (RA.run RA.done))
   A.leaf)
   A.leaf))
   (A.seq (A.reg (RA.run RA.done))
   A.leaf))))))))

noncomputable def cmp_Compare_uint64_O (Kv : VW) : List Ob := (obs Tryz.prog cmp_Compare_uint64_E 20 (cmp_Compare_uint64_A Kv) cmp_Compare_uint64_C (fun _ => retQ Tryz.prog Tryz.f73.results Kv))

theorem cmp_Compare_uint64_e (Kv : VW) (x_0 : Int) (y_1 : Int) (w : World) : cmp_Compare_uint64_sd x_0 y_1 (fun (r0 : Int) (w' : World) => Kv (Value.int .i64 r0) w') w = W Tryz.prog cmp_Compare_uint64_E 20 (cmp_Compare_uint64_A Kv) cmp_Compare_uint64_C [] (retQ Tryz.prog Tryz.f73.results Kv) [] (startS [(Value.int .u64 x_0), (Value.int .u64 y_1)]) w := by kernel_rfl

theorem cmp_Compare_uint64_n (Kv : VW) : obAt (cmp_Compare_uint64_O Kv) 0 = none := by kernel_rfl

theorem cmp_Compare_uint64_h (Kv : VW) : ∀ k, holdsAt Tryz.prog cmp_Compare_uint64_E 20 (cmp_Compare_uint64_O Kv) k := fun _ => holdsAt_ge (cmp_Compare_uint64_n Kv) (Nat.zero_le _)

theorem cmp_Compare_uint64_ok : Sound Tryz.prog 73 cmp_Compare_uint64_S := ⟨Tryz.call73, fun vs w Kv h => by
  unfold cmp_Compare_uint64_S at h
  split at h
  · have h := h.out
    rw [cmp_Compare_uint64_e] at h
    exact calls_sound (Γ := cmp_Compare_uint64_E) progMixed ⟨.inl cmp_isNaN_uint64_ok, trivial⟩ Tryz.func73 (code := cmp_Compare_uint64_C) (by kernel_rfl) (cmp_Compare_uint64_A Kv) Kv (holds_all (cmp_Compare_uint64_h Kv)) (Nat.le_of_ble_eq_true (by kernel_rfl)) h
  · exact h.elim⟩

/-! cmp_Or -/
def cmp_Or_b0 (zero_3 : Int) (t_6 : Sl) (t_7 : Int) (t_8 : Int) (N0 : Int → Sl → Int → Int → World → Prop)  (K : Int → World → Prop) (w : World) : Prop :=
  cnd (decide (t_8 < t_7))
    (nz t_6.p fun a1 => (0 ≤ t_8 ∧ t_8 < (t_6.l : Nat)) ∧ ∃ x2 : Int, w.cell? (a1.add (t_8.toNat * 1)) = some (Value.int .i64 x2) ∧ cnd (x2 != zero_3)
    (K x2 w)
    (inR .i64 (t_8 + (1 : Int)) ∧ N0 zero_3 t_6 t_7 (t_8 + (1 : Int)) w))
    (K zero_3 w)
def cmp_Or_l0d (zero_3 : Int) (t_6 : Sl) (t_7 : Int) (t_8 : Int)  (K : Int → World → Prop) (w : World) : Prop :=
  ∃ (I : Int → World → Prop) (μ : Int → World → Nat), I t_8 w ∧ ∀ (t_81 : Int) (w1 : World), I t_81 w1 →
    cmp_Or_b0 zero_3 t_6 t_7 t_81 (fun (zero_3' : Int) (t_6' : Sl) (t_7' : Int) (t_8' : Int) (w' : World) => ((zero_3' = zero_3 ∧ t_6' = t_6 ∧ t_7' = t_7 ∧ True) ∧ I t_8' w') ∧ μ t_8' w' < μ t_81 w1)  K w1
structure cmp_Or_l0 (zero_3 : Int) (t_6 : Sl) (t_7 : Int) (t_8 : Int)  (K : Int → World → Prop) (w : World) : Prop where
  out : cmp_Or_l0d zero_3 t_6 t_7 t_8 K w

def cmp_Or_sd (vals_0 : Sl) (K : Int → World → Prop) (w : World) : Prop :=
  cmp_Or_l0 (0 : Int) vals_0 (vals_0.l : Int) (0 : Int) K w

structure cmp_Or_sh (vals_0 : Sl) (K : Int → World → Prop) (w : World) : Prop where
  out : cmp_Or_sd vals_0 K w

def cmp_Or_P0 (Kv : VW) (ρ : Rho) (vs : List Value) (w : World) : Prop :=
  match ρ, vs with
  | _, [.int .i64 zero_3, .slice t_6p t_6l t_6c, .int .i64 t_7, .int .i64 t_8] => cmp_Or_l0 zero_3 ⟨t_6p, t_6l, t_6c⟩ t_7 t_8  (fun (r0 : Int) (w' : World) => Kv (Value.int .i64 r0) w') w
  | _, _ => False

noncomputable def cmp_Or_S : Pw.Spec := fun vs w Kv =>
  match vs with
  | [.slice vals_0p vals_0l vals_0c] => cmp_Or_sh ⟨vals_0p, vals_0l, vals_0c⟩ (fun (r0 : Int) (w' : World) => Kv (Value.int .i64 r0) w') w
  | _ => False

noncomputable def cmp_Or_E : Pw.Env := []

noncomputable def cmp_Or_C : Code := (Tryz.f72.body).getD .skip

noncomputable def cmp_Or_A (Kv : VW) : Pw.A :=
  (A.seq (A.reg (RA.run RA.done))
   (A.seq (A.reg (RA.run RA.done))
   (A.seq (A.seq (A.reg (RA.run (RA.run (RA.run RA.done))))
   (A.blk (A.loop [3, 6, 7, 8] (cmp_Or_P0 Kv) (A.seq (A.reg (RA.run RA.done))
   (A.seq (A.cond A.leaf
   A.leaf)
   (A.seq (A.blk (A.seq (A.reg (RA.run (RA.run (RA.run RA.done))))
   (A.seq (A.reg (RA.run (RA.run (RA.run RA.done))))
   (A.cond (A.seq (A.reg (RA.run (RA.run RA.done)))
   A.leaf)
   A.leaf))))
   (A.reg (RA.run (RA.run RA.done)))))))))
   (A.seq (A.reg (RA.run (RA.run RA.done)))
   A.leaf))))

noncomputable def cmp_Or_O (Kv : VW) : List Ob := (obs Tryz.prog cmp_Or_E 18 (cmp_Or_A Kv) cmp_Or_C (fun _ => retQ Tryz.prog Tryz.f72.results Kv))

theorem cmp_Or_e (Kv : VW) (vals_0p : Option Addr) (vals_0l vals_0c : Nat) (w : World) : cmp_Or_sd ⟨vals_0p, vals_0l, vals_0c⟩ (fun (r0 : Int) (w' : World) => Kv (Value.int .i64 r0) w') w = W Tryz.prog cmp_Or_E 18 (cmp_Or_A Kv) cmp_Or_C [] (retQ Tryz.prog Tryz.f72.results Kv) [] (startS [(Value.slice vals_0p vals_0l vals_0c)]) w := by kernel_rfl

theorem cmp_Or_e0 (Kv : VW) (N0 : List Value → World → Prop) (ρ : Rho) (zero_3 : Int) (t_6p : Option Addr) (t_6l t_6c : Nat) (t_7 : Int) (t_8 : Int) (w : World) : cmp_Or_b0 zero_3 ⟨t_6p, t_6l, t_6c⟩ t_7 t_8 (fun (zero_3' : Int) (t_6' : Sl) (t_7' : Int) (t_8' : Int) (w' : World) => N0 [(Value.int .i64 zero_3'), (Value.slice t_6'.p t_6'.l t_6'.c), (Value.int .i64 t_7'), (Value.int .i64 t_8')] w')  (fun (r0 : Int) (w' : World) => Kv (Value.int .i64 r0) w') w = goalAt Tryz.prog cmp_Or_E 18 (cmp_Or_O Kv) 0 (N0 :: ρ) [(Value.int .i64 zero_3), (Value.slice t_6p t_6l t_6c), (Value.int .i64 t_7), (Value.int .i64 t_8)] w := by kernel_rfl

theorem cmp_Or_q0 (Kv : VW) (ρ : Rho) (vs : List Value) (w : World) : labAt (cmp_Or_O Kv) 0 ρ vs w = cmp_Or_P0 Kv ρ vs w := by kernel_rfl

def cmp_Or_I0 (zero_30 : Int) (t_60 : Sl) (t_70 : Int) (I : Int → World → Prop) (vs : List Value) (w : World) : Prop :=
  match vs with
  | [.int .i64 zero_3, .slice t_6p t_6l t_6c, .int .i64 t_7, .int .i64 t_8] => (zero_3 = zero_30 ∧ ⟨t_6p, t_6l, t_6c⟩ = t_60 ∧ t_7 = t_70 ∧ True) ∧ I t_8 w
  | _ => False

def cmp_Or_M0 (μ : Int → World → Nat) (vs : List Value) (w : World) : Nat :=
  match vs with
  | [.int .i64 _zero_3, .slice _t_6p _t_6l _t_6c, .int .i64 _t_7, .int .i64 t_8] => μ t_8 w
  | _ => 0

theorem cmp_Or_h0 (Kv : VW) : holdsAt Tryz.prog cmp_Or_E 18 (cmp_Or_O Kv) 0 := holdsAt_loop (by kernel_rfl) (fun ρ vs w h => by
  rw [cmp_Or_q0] at h
  unfold cmp_Or_P0 at h
  split at h
  · rename_i ρt zero_3 t_6p t_6l t_6c t_7 t_8
    obtain ⟨I, μ, h0, hr⟩ := h.out
    refine ⟨cmp_Or_I0 zero_3 ⟨t_6p, t_6l, t_6c⟩ t_7 I, cmp_Or_M0 μ, ⟨⟨rfl, rfl, rfl, trivial⟩, h0⟩, fun vs w hI => ?_⟩
    unfold cmp_Or_I0 at hI
    split at hI
    · obtain ⟨⟨h0, h1, h2, _⟩, hI⟩ := hI
      cases h0; cases h1; cases h2
      rw [← cmp_Or_e0]
      exact hr _ _ hI
    · exact hI.elim
  · exact h.elim)

theorem cmp_Or_n (Kv : VW) : obAt (cmp_Or_O Kv) 1 = none := by kernel_rfl

theorem cmp_Or_h (Kv : VW) : ∀ k, holdsAt Tryz.prog cmp_Or_E 18 (cmp_Or_O Kv) k := fun k => match k with
  | 0 => cmp_Or_h0 Kv
  | _k + 1 => holdsAt_ge (cmp_Or_n Kv) (Nat.le_add_left _ _)

theorem cmp_Or_ok : Sound Tryz.prog 72 cmp_Or_S := ⟨Tryz.call72, fun vs w Kv h => by
  unfold cmp_Or_S at h
  split at h
  · have h := h.out
    rw [cmp_Or_e] at h
    exact calls_sound (Γ := cmp_Or_E) progMixed trivial Tryz.func72 (code := cmp_Or_C) (by kernel_rfl) (cmp_Or_A Kv) Kv (holds_all (cmp_Or_h Kv)) (Nat.le_of_ble_eq_true (by kernel_rfl)) h
  · exact h.elim⟩

/-! ratio_compare -/
def ratio_compare_sd (a_0_0 : Int) (a_0_1 : Int) (b_1_0 : Int) (b_1_1 : Int) (K : Int → World → Prop) (w : World) : Prop :=
  let w1 : World := w.alloc (Obj.cells #[(Value.int .u64 a_0_0), (Value.int .u64 a_0_1)] 67)
  let w2 : World := w1.alloc (Obj.cells #[(Value.int .u64 b_1_0), (Value.int .u64 b_1_1)] 67)
  let w3 : World := w2.drew
  ∃ S4 : World → Prop, S4 w3 ∧ ∃ x5 : Int, (∀ w' : World, S4 w' → w'.cell? (Addr.mk w.heap.size 0 none) = some (Value.int .u64 x5)) ∧ ∃ x6 : Int, (∀ w' : World, S4 w' → w'.cell? (Addr.mk w1.heap.size 0 none) = some (Value.int .u64 x6)) ∧ ∃ x7 : Int, (∀ w' : World, S4 w' → w'.cell? (Addr.mk w.heap.size 1 none) = some (Value.int .u64 x7)) ∧ ∃ x8 : Int, (∀ w' : World, S4 w' → w'.cell? (Addr.mk w1.heap.size 1 none) = some (Value.int .u64 x8)) ∧ cmp_Compare_uint64_sh x5 x6 (fun (r10 : Int) (w9 : World) => S4 w9 ∧ cmp_Compare_uint64_sh x7 x8 (fun (r12 : Int) (w11 : World) => S4 w11 ∧ let w13 : World := w11.alloc (Obj.cells #[(Value.int .i64 r10), (Value.int .i64 r12)] 3)
  S4 w13 ∧ cmp_Or_sh (Sl.mk (some (Addr.mk w11.heap.size 0 none)) 2 2) (fun (r15 : Int) (w14 : World) => S4 w14 ∧ K r15 w14) w13) w9) w3

structure ratio_compare_sh (a_0_0 : Int) (a_0_1 : Int) (b_1_0 : Int) (b_1_1 : Int) (K : Int → World → Prop) (w : World) : Prop where
  out : ratio_compare_sd a_0_0 a_0_1 b_1_0 b_1_1 K w

noncomputable def ratio_compare_S : Pw.Spec := fun vs w Kv =>
  match vs with
  | [.agg ⟨[.int .u64 a_0_0, .int .u64 a_0_1]⟩, .agg ⟨[.int .u64 b_1_0, .int .u64 b_1_1]⟩] => ratio_compare_sh a_0_0 a_0_1 b_1_0 b_1_1 (fun (r0 : Int) (w' : World) => Kv (Value.int .i64 r0) w') w
  | _ => False

noncomputable def ratio_compare_E : Pw.Env := [(72, cmp_Or_S), (73, cmp_Compare_uint64_S)]

noncomputable def ratio_compare_C : Code := (Tryz.f49.body).getD .skip

noncomputable def ratio_compare_A (_Kv : VW) : Pw.A :=
  (A.seq (A.reg (RA.run (RA.run (RA.run RA.done))))
   (A.seq (A.drw (DA.pur 0 (DA.pur 1 (DA.pur 2 (DA.pur 3 (DA.pur 5 (DA.pur 6 (DA.pur 7 (DA.pur 8 (DA.eff 4 (DA.eff 9 (DA.eff 10 (DA.eff 11 (DA.pur 12 DA.done))))))))))))))
   A.leaf))

noncomputable def ratio_compare_O (Kv : VW) : List Ob := (obs Tryz.prog ratio_compare_E 17 (ratio_compare_A Kv) ratio_compare_C (fun _ => retQ Tryz.prog Tryz.f49.results Kv))

theorem ratio_compare_e (Kv : VW) (a_0_0 : Int) (a_0_1 : Int) (b_1_0 : Int) (b_1_1 : Int) (w : World) : ratio_compare_sd a_0_0 a_0_1 b_1_0 b_1_1 (fun (r0 : Int) (w' : World) => Kv (Value.int .i64 r0) w') w = W Tryz.prog ratio_compare_E 17 (ratio_compare_A Kv) ratio_compare_C [] (retQ Tryz.prog Tryz.f49.results Kv) [] (startS [(Value.agg #[(Value.int .u64 a_0_0), (Value.int .u64 a_0_1)]), (Value.agg #[(Value.int .u64 b_1_0), (Value.int .u64 b_1_1)])]) w := by kernel_rfl

theorem ratio_compare_n (Kv : VW) : obAt (ratio_compare_O Kv) 0 = none := by kernel_rfl

theorem ratio_compare_h (Kv : VW) : ∀ k, holdsAt Tryz.prog ratio_compare_E 17 (ratio_compare_O Kv) k := fun _ => holdsAt_ge (ratio_compare_n Kv) (Nat.zero_le _)

theorem ratio_compare_ok : Sound Tryz.prog 49 ratio_compare_S := ⟨Tryz.call49, fun vs w Kv h => by
  unfold ratio_compare_S at h
  split at h
  · have h := h.out
    rw [ratio_compare_e] at h
    exact calls_sound (Γ := ratio_compare_E) progMixed ⟨.inl cmp_Or_ok, .inl cmp_Compare_uint64_ok, trivial⟩ Tryz.func49 (code := ratio_compare_C) (by kernel_rfl) (ratio_compare_A Kv) Kv (holds_all (ratio_compare_h Kv)) (Nat.le_of_ble_eq_true (by kernel_rfl)) h
  · exact h.elim⟩

/-! ratio_wide_sub -/
def ratio_wide_sub_sd (a_0_0 : Int) (a_0_1 : Int) (b_1_0 : Int) (b_1_1 : Int) (K : Int → Int → World → Prop) (w : World) : Prop :=
  let w1 : World := w.alloc (Obj.cells #[(Value.int .u64 a_0_0), (Value.int .u64 a_0_1)] 67)
  let w2 : World := w1.alloc (Obj.cells #[(Value.int .u64 b_1_0), (Value.int .u64 b_1_1)] 67)
  let w3 : World := w2.alloc (Obj.cells #[(Value.int .u64 (0 : Int)), (Value.int .u64 (0 : Int))] 67)
  ∃ x4 : Int, w3.cell? (Addr.mk w.heap.size 1 none) = some (Value.int .u64 x4) ∧ ∃ x5 : Int, w3.cell? (Addr.mk w1.heap.size 1 none) = some (Value.int .u64 x5) ∧ bits_Sub64_sh x4 x5 (0 : Int) (fun (r7 : Int) (r8 : Int) (w6 : World) => ∃ x9 : Int, w6.cell? (Addr.mk w.heap.size 0 none) = some (Value.int .u64 x9) ∧ ∃ x10 : Int, w6.cell? (Addr.mk w1.heap.size 0 none) = some (Value.int .u64 x10) ∧ bits_Sub64_sh x9 x10 r8 (fun (r12 : Int) (_r13 : Int) (w11 : World) => wrOk w11 (Addr.mk w2.heap.size 0 none) ∧ 
  (let w14 : World := w11.setCell (Addr.mk w2.heap.size 0 none) (Value.int .u64 r12)
  wrOk w14 (Addr.mk w2.heap.size 1 none) ∧ 
  (let w15 : World := w14.setCell (Addr.mk w2.heap.size 1 none) (Value.int .u64 r7)
  ∃ x16 : Int, w15.cell? (Addr.mk w2.heap.size 0 none) = some (Value.int .u64 x16) ∧ ∃ x17 : Int, w15.cell? (Addr.mk w2.heap.size 1 none) = some (Value.int .u64 x17) ∧ K x16 x17 w15))) w6) w3

structure ratio_wide_sub_sh (a_0_0 : Int) (a_0_1 : Int) (b_1_0 : Int) (b_1_1 : Int) (K : Int → Int → World → Prop) (w : World) : Prop where
  out : ratio_wide_sub_sd a_0_0 a_0_1 b_1_0 b_1_1 K w

noncomputable def ratio_wide_sub_S : Pw.Spec := fun vs w Kv =>
  match vs with
  | [.agg ⟨[.int .u64 a_0_0, .int .u64 a_0_1]⟩, .agg ⟨[.int .u64 b_1_0, .int .u64 b_1_1]⟩] => ratio_wide_sub_sh a_0_0 a_0_1 b_1_0 b_1_1 (fun (r0_0 : Int) (r0_1 : Int) (w' : World) => Kv (Value.agg #[(Value.int .u64 r0_0), (Value.int .u64 r0_1)]) w') w
  | _ => False

noncomputable def ratio_wide_sub_E : Pw.Env := [(90, bits_Sub64_S)]

noncomputable def ratio_wide_sub_C : Code := (Tryz.f69.body).getD .skip

noncomputable def ratio_wide_sub_A (_Kv : VW) : Pw.A :=
  (A.seq (A.reg (RA.run (RA.run (RA.run RA.done))))
   (A.seq (A.reg (RA.run (RA.run (RA.run (RA.run (RA.run (RA.run (RA.run (RA.run (RA.run (RA.run RA.done)))))))))))
   (A.seq (A.reg (RA.run (RA.run (RA.run (RA.run (RA.run (RA.run (RA.run (RA.run (RA.run (RA.run (RA.run RA.done))))))))))))
   (A.seq (A.reg (RA.run (RA.run (RA.run (RA.run RA.done)))))
   A.leaf))))

noncomputable def ratio_wide_sub_O (Kv : VW) : List Ob := (obs Tryz.prog ratio_wide_sub_E 29 (ratio_wide_sub_A Kv) ratio_wide_sub_C (fun _ => retQ Tryz.prog Tryz.f69.results Kv))

theorem ratio_wide_sub_e (Kv : VW) (a_0_0 : Int) (a_0_1 : Int) (b_1_0 : Int) (b_1_1 : Int) (w : World) : ratio_wide_sub_sd a_0_0 a_0_1 b_1_0 b_1_1 (fun (r0_0 : Int) (r0_1 : Int) (w' : World) => Kv (Value.agg #[(Value.int .u64 r0_0), (Value.int .u64 r0_1)]) w') w = W Tryz.prog ratio_wide_sub_E 29 (ratio_wide_sub_A Kv) ratio_wide_sub_C [] (retQ Tryz.prog Tryz.f69.results Kv) [] (startS [(Value.agg #[(Value.int .u64 a_0_0), (Value.int .u64 a_0_1)]), (Value.agg #[(Value.int .u64 b_1_0), (Value.int .u64 b_1_1)])]) w := by kernel_rfl

theorem ratio_wide_sub_n (Kv : VW) : obAt (ratio_wide_sub_O Kv) 0 = none := by kernel_rfl

theorem ratio_wide_sub_h (Kv : VW) : ∀ k, holdsAt Tryz.prog ratio_wide_sub_E 29 (ratio_wide_sub_O Kv) k := fun _ => holdsAt_ge (ratio_wide_sub_n Kv) (Nat.zero_le _)

theorem ratio_wide_sub_ok : Sound Tryz.prog 69 ratio_wide_sub_S := ⟨Tryz.call69, fun vs w Kv h => by
  unfold ratio_wide_sub_S at h
  split at h
  · have h := h.out
    rw [ratio_wide_sub_e] at h
    exact calls_sound (Γ := ratio_wide_sub_E) progMixed ⟨.inr bits_Sub64_ok, trivial⟩ Tryz.func69 (code := ratio_wide_sub_C) (by kernel_rfl) (ratio_wide_sub_A Kv) Kv (holds_all (ratio_wide_sub_h Kv)) (Nat.le_of_ble_eq_true (by kernel_rfl)) h
  · exact h.elim⟩

/-! bits_Len64 -/
def bits_Len64_k2d (x_0 : Int) (n_2 : Int)  (K : Int → World → Prop) (w : World) : Prop :=
  inR .u8 x_0 ∧ (0 ≤ x_0 ∧ x_0 < ((str [0, 1, 2, 2, 3, 3, 3, 3, 4, 4, 4, 4, 4, 4, 4, 4, 5, 5, 5, 5, 5, 5, 5, 5, 5, 5, 5, 5, 5, 5, 5, 5, 6, 6, 6, 6, 6, 6, 6, 6, 6, 6, 6, 6, 6, 6, 6, 6, 6, 6, 6, 6, 6, 6, 6, 6, 6, 6, 6, 6, 6, 6, 6, 6, 7, 7, 7, 7, 7, 7, 7, 7, 7, 7, 7, 7, 7, 7, 7, 7, 7, 7, 7, 7, 7, 7, 7, 7, 7, 7, 7, 7, 7, 7, 7, 7, 7, 7, 7, 7, 7, 7, 7, 7, 7, 7, 7, 7, 7, 7, 7, 7, 7, 7, 7, 7, 7, 7, 7, 7, 7, 7, 7, 7, 7, 7, 7, 7, 8, 8, 8, 8, 8, 8, 8, 8, 8, 8, 8, 8, 8, 8, 8, 8, 8, 8, 8, 8, 8, 8, 8, 8, 8, 8, 8, 8, 8, 8, 8, 8, 8, 8, 8, 8, 8, 8, 8, 8, 8, 8, 8, 8, 8, 8, 8, 8, 8, 8, 8, 8, 8, 8, 8, 8, 8, 8, 8, 8, 8, 8, 8, 8, 8, 8, 8, 8, 8, 8, 8, 8, 8, 8, 8, 8, 8, 8, 8, 8, 8, 8, 8, 8, 8, 8, 8, 8, 8, 8, 8, 8, 8, 8, 8, 8, 8, 8, 8, 8, 8, 8, 8, 8, 8, 8, 8, 8, 8, 8, 8, 8, 8, 8, 8, 8, 8, 8, 8, 8, 8, 8, 8, 8, 8, 8, 8, 8]).size : Nat)) ∧ inR .i64 (((str [0, 1, 2, 2, 3, 3, 3, 3, 4, 4, 4, 4, 4, 4, 4, 4, 5, 5, 5, 5, 5, 5, 5, 5, 5, 5, 5, 5, 5, 5, 5, 5, 6, 6, 6, 6, 6, 6, 6, 6, 6, 6, 6, 6, 6, 6, 6, 6, 6, 6, 6, 6, 6, 6, 6, 6, 6, 6, 6, 6, 6, 6, 6, 6, 7, 7, 7, 7, 7, 7, 7, 7, 7, 7, 7, 7, 7, 7, 7, 7, 7, 7, 7, 7, 7, 7, 7, 7, 7, 7, 7, 7, 7, 7, 7, 7, 7, 7, 7, 7, 7, 7, 7, 7, 7, 7, 7, 7, 7, 7, 7, 7, 7, 7, 7, 7, 7, 7, 7, 7, 7, 7, 7, 7, 7, 7, 7, 7, 8, 8, 8, 8, 8, 8, 8, 8, 8, 8, 8, 8, 8, 8, 8, 8, 8, 8, 8, 8, 8, 8, 8, 8, 8, 8, 8, 8, 8, 8, 8, 8, 8, 8, 8, 8, 8, 8, 8, 8, 8, 8, 8, 8, 8, 8, 8, 8, 8, 8, 8, 8, 8, 8, 8, 8, 8, 8, 8, 8, 8, 8, 8, 8, 8, 8, 8, 8, 8, 8, 8, 8, 8, 8, 8, 8, 8, 8, 8, 8, 8, 8, 8, 8, 8, 8, 8, 8, 8, 8, 8, 8, 8, 8, 8, 8, 8, 8, 8, 8, 8, 8, 8, 8, 8, 8, 8, 8, 8, 8, 8, 8, 8, 8, 8, 8, 8, 8, 8, 8, 8, 8, 8, 8, 8, 8, 8, 8]).data.toList.getD x_0.toNat 0).toNat : Int) ∧ inR .i64 (n_2 + (((str [0, 1, 2, 2, 3, 3, 3, 3, 4, 4, 4, 4, 4, 4, 4, 4, 5, 5, 5, 5, 5, 5, 5, 5, 5, 5, 5, 5, 5, 5, 5, 5, 6, 6, 6, 6, 6, 6, 6, 6, 6, 6, 6, 6, 6, 6, 6, 6, 6, 6, 6, 6, 6, 6, 6, 6, 6, 6, 6, 6, 6, 6, 6, 6, 7, 7, 7, 7, 7, 7, 7, 7, 7, 7, 7, 7, 7, 7, 7, 7, 7, 7, 7, 7, 7, 7, 7, 7, 7, 7, 7, 7, 7, 7, 7, 7, 7, 7, 7, 7, 7, 7, 7, 7, 7, 7, 7, 7, 7, 7, 7, 7, 7, 7, 7, 7, 7, 7, 7, 7, 7, 7, 7, 7, 7, 7, 7, 7, 8, 8, 8, 8, 8, 8, 8, 8, 8, 8, 8, 8, 8, 8, 8, 8, 8, 8, 8, 8, 8, 8, 8, 8, 8, 8, 8, 8, 8, 8, 8, 8, 8, 8, 8, 8, 8, 8, 8, 8, 8, 8, 8, 8, 8, 8, 8, 8, 8, 8, 8, 8, 8, 8, 8, 8, 8, 8, 8, 8, 8, 8, 8, 8, 8, 8, 8, 8, 8, 8, 8, 8, 8, 8, 8, 8, 8, 8, 8, 8, 8, 8, 8, 8, 8, 8, 8, 8, 8, 8, 8, 8, 8, 8, 8, 8, 8, 8, 8, 8, 8, 8, 8, 8, 8, 8, 8, 8, 8, 8, 8, 8, 8, 8, 8, 8, 8, 8, 8, 8, 8, 8, 8, 8, 8, 8, 8, 8]).data.toList.getD x_0.toNat 0).toNat : Int)) ∧ K (n_2 + (((str [0, 1, 2, 2, 3, 3, 3, 3, 4, 4, 4, 4, 4, 4, 4, 4, 5, 5, 5, 5, 5, 5, 5, 5, 5, 5, 5, 5, 5, 5, 5, 5, 6, 6, 6, 6, 6, 6, 6, 6, 6, 6, 6, 6, 6, 6, 6, 6, 6, 6, 6, 6, 6, 6, 6, 6, 6, 6, 6, 6, 6, 6, 6, 6, 7, 7, 7, 7, 7, 7, 7, 7, 7, 7, 7, 7, 7, 7, 7, 7, 7, 7, 7, 7, 7, 7, 7, 7, 7, 7, 7, 7, 7, 7, 7, 7, 7, 7, 7, 7, 7, 7, 7, 7, 7, 7, 7, 7, 7, 7, 7, 7, 7, 7, 7, 7, 7, 7, 7, 7, 7, 7, 7, 7, 7, 7, 7, 7, 8, 8, 8, 8, 8, 8, 8, 8, 8, 8, 8, 8, 8, 8, 8, 8, 8, 8, 8, 8, 8, 8, 8, 8, 8, 8, 8, 8, 8, 8, 8, 8, 8, 8, 8, 8, 8, 8, 8, 8, 8, 8, 8, 8, 8, 8, 8, 8, 8, 8, 8, 8, 8, 8, 8, 8, 8, 8, 8, 8, 8, 8, 8, 8, 8, 8, 8, 8, 8, 8, 8, 8, 8, 8, 8, 8, 8, 8, 8, 8, 8, 8, 8, 8, 8, 8, 8, 8, 8, 8, 8, 8, 8, 8, 8, 8, 8, 8, 8, 8, 8, 8, 8, 8, 8, 8, 8, 8, 8, 8, 8, 8, 8, 8, 8, 8, 8, 8, 8, 8, 8, 8, 8, 8, 8, 8, 8, 8]).data.toList.getD x_0.toNat 0).toNat : Int)) w
structure bits_Len64_k2 (x_0 : Int) (n_2 : Int)  (K : Int → World → Prop) (w : World) : Prop where
  out : bits_Len64_k2d x_0 n_2 K w

def bits_Len64_k1d (x_0 : Int) (n_2 : Int)  (K : Int → World → Prop) (w : World) : Prop :=
  cnd (decide (x_0 ≥ (256 : Int)))
    (0 ≤ (8 : Int) ∧ inR .i64 (n_2 + (8 : Int)) ∧ bits_Len64_k2 (Int.fdiv x_0 (2 ^ (min 8 (IntKind.bits .u64)))) (n_2 + (8 : Int)) K w)
    (bits_Len64_k2 x_0 n_2 K w)
structure bits_Len64_k1 (x_0 : Int) (n_2 : Int)  (K : Int → World → Prop) (w : World) : Prop where
  out : bits_Len64_k1d x_0 n_2 K w

def bits_Len64_k0d (x_0 : Int) (n_2 : Int)  (K : Int → World → Prop) (w : World) : Prop :=
  cnd (decide (x_0 ≥ (65536 : Int)))
    (0 ≤ (16 : Int) ∧ inR .i64 (n_2 + (16 : Int)) ∧ bits_Len64_k1 (Int.fdiv x_0 (2 ^ (min 16 (IntKind.bits .u64)))) (n_2 + (16 : Int)) K w)
    (bits_Len64_k1 x_0 n_2 K w)
structure bits_Len64_k0 (x_0 : Int) (n_2 : Int)  (K : Int → World → Prop) (w : World) : Prop where
  out : bits_Len64_k0d x_0 n_2 K w

def bits_Len64_sd (x_0 : Int) (K : Int → World → Prop) (w : World) : Prop :=
  cnd (decide (x_0 ≥ (4294967296 : Int)))
    (0 ≤ (32 : Int) ∧ bits_Len64_k0 (Int.fdiv x_0 (2 ^ (min 32 (IntKind.bits .u64)))) (32 : Int) K w)
    (bits_Len64_k0 x_0 (0 : Int) K w)

structure bits_Len64_sh (x_0 : Int) (K : Int → World → Prop) (w : World) : Prop where
  out : bits_Len64_sd x_0 K w

def bits_Len64_P0 (Kv : VW) (ρ : Rho) (vs : List Value) (w : World) : Prop :=
  match ρ, vs with
  | _, [.int .u64 x_0, .int .i64 n_2] => bits_Len64_k0 x_0 n_2  (fun (r0 : Int) (w' : World) => Kv (Value.int .i64 r0) w') w
  | _, _ => False

def bits_Len64_P1 (Kv : VW) (ρ : Rho) (vs : List Value) (w : World) : Prop :=
  match ρ, vs with
  | _, [.int .u64 x_0, .int .i64 n_2] => bits_Len64_k1 x_0 n_2  (fun (r0 : Int) (w' : World) => Kv (Value.int .i64 r0) w') w
  | _, _ => False

def bits_Len64_P2 (Kv : VW) (ρ : Rho) (vs : List Value) (w : World) : Prop :=
  match ρ, vs with
  | _, [.int .u64 x_0, .int .i64 n_2] => bits_Len64_k2 x_0 n_2  (fun (r0 : Int) (w' : World) => Kv (Value.int .i64 r0) w') w
  | _, _ => False

noncomputable def bits_Len64_S : Pw.Spec := fun vs w Kv =>
  match vs with
  | [.int .u64 x_0] => bits_Len64_sh x_0 (fun (r0 : Int) (w' : World) => Kv (Value.int .i64 r0) w') w
  | _ => False

noncomputable def bits_Len64_E : Pw.Env := []

noncomputable def bits_Len64_C : Code := (Tryz.f107.body).getD .skip

noncomputable def bits_Len64_A (Kv : VW) : Pw.A :=
  (A.seq (A.reg (RA.run RA.done))
   (A.seq (A.seq (A.reg (RA.run (RA.run RA.done)))
   (A.cond (A.seq (A.reg (RA.run (RA.run (RA.run RA.done))))
   (A.reg (RA.run RA.done)))
   A.leaf))
   (A.cut [0, 2] (bits_Len64_P0 Kv) (A.seq (A.seq (A.reg (RA.run (RA.run RA.done)))
   (A.cond (A.seq (A.reg (RA.run (RA.run (RA.run RA.done))))
   (A.reg (RA.run (RA.run (RA.run RA.done)))))
   A.leaf))
   (A.cut [0, 2] (bits_Len64_P1 Kv) (A.seq (A.seq (A.reg (RA.run (RA.run RA.done)))
   (A.cond (A.seq (A.reg (RA.run (RA.run (RA.run RA.done))))
   (A.reg (RA.run (RA.run (RA.run RA.done)))))
   A.leaf))
   (A.cut [0, 2] (bits_Len64_P2 Kv) (A.seq (A.reg (RA.run (RA.run (RA.run (RA.run (RA.run (RA.run (RA.run RA.done))))))))
   A.leaf))))))))

noncomputable def bits_Len64_O (Kv : VW) : List Ob := (obs Tryz.prog bits_Len64_E 25 (bits_Len64_A Kv) bits_Len64_C (fun _ => retQ Tryz.prog Tryz.f107.results Kv))

theorem bits_Len64_e (Kv : VW) (x_0 : Int) (w : World) : bits_Len64_sd x_0 (fun (r0 : Int) (w' : World) => Kv (Value.int .i64 r0) w') w = W Tryz.prog bits_Len64_E 25 (bits_Len64_A Kv) bits_Len64_C [] (retQ Tryz.prog Tryz.f107.results Kv) [] (startS [(Value.int .u64 x_0)]) w := by kernel_rfl

theorem bits_Len64_e0 (Kv : VW) (ρ : Rho) (x_0 : Int) (n_2 : Int) (w : World) : bits_Len64_k0d x_0 n_2  (fun (r0 : Int) (w' : World) => Kv (Value.int .i64 r0) w') w = goalAt Tryz.prog bits_Len64_E 25 (bits_Len64_O Kv) 0 (ρ) [(Value.int .u64 x_0), (Value.int .i64 n_2)] w := by kernel_rfl

theorem bits_Len64_q0 (Kv : VW) (ρ : Rho) (vs : List Value) (w : World) : labAt (bits_Len64_O Kv) 0 ρ vs w = bits_Len64_P0 Kv ρ vs w := by kernel_rfl

theorem bits_Len64_h0 (Kv : VW) : holdsAt Tryz.prog bits_Len64_E 25 (bits_Len64_O Kv) 0 := holdsAt_cut (.inl (by kernel_rfl)) (fun ρ vs w h => by
  rw [bits_Len64_q0] at h
  unfold bits_Len64_P0 at h
  split at h
  · rw [← bits_Len64_e0]; exact h.out
  · exact h.elim)

theorem bits_Len64_e1 (Kv : VW) (ρ : Rho) (x_0 : Int) (n_2 : Int) (w : World) : bits_Len64_k1d x_0 n_2  (fun (r0 : Int) (w' : World) => Kv (Value.int .i64 r0) w') w = goalAt Tryz.prog bits_Len64_E 25 (bits_Len64_O Kv) 1 (ρ) [(Value.int .u64 x_0), (Value.int .i64 n_2)] w := by kernel_rfl

theorem bits_Len64_q1 (Kv : VW) (ρ : Rho) (vs : List Value) (w : World) : labAt (bits_Len64_O Kv) 1 ρ vs w = bits_Len64_P1 Kv ρ vs w := by kernel_rfl

theorem bits_Len64_h1 (Kv : VW) : holdsAt Tryz.prog bits_Len64_E 25 (bits_Len64_O Kv) 1 := holdsAt_cut (.inl (by kernel_rfl)) (fun ρ vs w h => by
  rw [bits_Len64_q1] at h
  unfold bits_Len64_P1 at h
  split at h
  · rw [← bits_Len64_e1]; exact h.out
  · exact h.elim)

theorem bits_Len64_e2 (Kv : VW) (ρ : Rho) (x_0 : Int) (n_2 : Int) (w : World) : bits_Len64_k2d x_0 n_2  (fun (r0 : Int) (w' : World) => Kv (Value.int .i64 r0) w') w = goalAt Tryz.prog bits_Len64_E 25 (bits_Len64_O Kv) 2 (ρ) [(Value.int .u64 x_0), (Value.int .i64 n_2)] w := by kernel_rfl

theorem bits_Len64_q2 (Kv : VW) (ρ : Rho) (vs : List Value) (w : World) : labAt (bits_Len64_O Kv) 2 ρ vs w = bits_Len64_P2 Kv ρ vs w := by kernel_rfl

theorem bits_Len64_h2 (Kv : VW) : holdsAt Tryz.prog bits_Len64_E 25 (bits_Len64_O Kv) 2 := holdsAt_cut (.inl (by kernel_rfl)) (fun ρ vs w h => by
  rw [bits_Len64_q2] at h
  unfold bits_Len64_P2 at h
  split at h
  · rw [← bits_Len64_e2]; exact h.out
  · exact h.elim)

theorem bits_Len64_n (Kv : VW) : obAt (bits_Len64_O Kv) 3 = none := by kernel_rfl

theorem bits_Len64_h (Kv : VW) : ∀ k, holdsAt Tryz.prog bits_Len64_E 25 (bits_Len64_O Kv) k := fun k => match k with
  | 0 => bits_Len64_h0 Kv
  | 1 => bits_Len64_h1 Kv
  | 2 => bits_Len64_h2 Kv
  | _k + 3 => holdsAt_ge (bits_Len64_n Kv) (Nat.le_add_left _ _)

theorem bits_Len64_ok : Sound Tryz.prog 107 bits_Len64_S := ⟨Tryz.call107, fun vs w Kv h => by
  unfold bits_Len64_S at h
  split at h
  · have h := h.out
    rw [bits_Len64_e] at h
    exact calls_sound (Γ := bits_Len64_E) progMixed trivial Tryz.func107 (code := bits_Len64_C) (by kernel_rfl) (bits_Len64_A Kv) Kv (holds_all (bits_Len64_h Kv)) (Nat.le_of_ble_eq_true (by kernel_rfl)) h
  · exact h.elim⟩

/-! bits_LeadingZeros64 -/
def bits_LeadingZeros64_sd (x_0 : Int) (K : Int → World → Prop) (w : World) : Prop :=
  bits_Len64_sh x_0 (fun (r2 : Int) (w1 : World) => inR .i64 ((64 : Int) - r2) ∧ K ((64 : Int) - r2) w1) w

structure bits_LeadingZeros64_sh (x_0 : Int) (K : Int → World → Prop) (w : World) : Prop where
  out : bits_LeadingZeros64_sd x_0 K w

noncomputable def bits_LeadingZeros64_S : Pw.Spec := fun vs w Kv =>
  match vs with
  | [.int .u64 x_0] => bits_LeadingZeros64_sh x_0 (fun (r0 : Int) (w' : World) => Kv (Value.int .i64 r0) w') w
  | _ => False

noncomputable def bits_LeadingZeros64_E : Pw.Env := [(107, bits_Len64_S)]

noncomputable def bits_LeadingZeros64_C : Code := (Tryz.f105.body).getD .skip

noncomputable def bits_LeadingZeros64_A (_Kv : VW) : Pw.A :=
  (A.seq (A.reg (RA.run RA.done))
   (A.seq (A.reg (RA.run (RA.run (RA.run (RA.run RA.done)))))
   A.leaf))

noncomputable def bits_LeadingZeros64_O (Kv : VW) : List Ob := (obs Tryz.prog bits_LeadingZeros64_E 6 (bits_LeadingZeros64_A Kv) bits_LeadingZeros64_C (fun _ => retQ Tryz.prog Tryz.f105.results Kv))

theorem bits_LeadingZeros64_e (Kv : VW) (x_0 : Int) (w : World) : bits_LeadingZeros64_sd x_0 (fun (r0 : Int) (w' : World) => Kv (Value.int .i64 r0) w') w = W Tryz.prog bits_LeadingZeros64_E 6 (bits_LeadingZeros64_A Kv) bits_LeadingZeros64_C [] (retQ Tryz.prog Tryz.f105.results Kv) [] (startS [(Value.int .u64 x_0)]) w := by kernel_rfl

theorem bits_LeadingZeros64_n (Kv : VW) : obAt (bits_LeadingZeros64_O Kv) 0 = none := by kernel_rfl

theorem bits_LeadingZeros64_h (Kv : VW) : ∀ k, holdsAt Tryz.prog bits_LeadingZeros64_E 6 (bits_LeadingZeros64_O Kv) k := fun _ => holdsAt_ge (bits_LeadingZeros64_n Kv) (Nat.zero_le _)

theorem bits_LeadingZeros64_ok : Sound Tryz.prog 105 bits_LeadingZeros64_S := ⟨Tryz.call105, fun vs w Kv h => by
  unfold bits_LeadingZeros64_S at h
  split at h
  · have h := h.out
    rw [bits_LeadingZeros64_e] at h
    exact calls_sound (Γ := bits_LeadingZeros64_E) progMixed ⟨.inl bits_Len64_ok, trivial⟩ Tryz.func105 (code := bits_LeadingZeros64_C) (by kernel_rfl) (bits_LeadingZeros64_A Kv) Kv (holds_all (bits_LeadingZeros64_h Kv)) (Nat.le_of_ble_eq_true (by kernel_rfl)) h
  · exact h.elim⟩

/-! bits_Div64 -/
def bits_Div64_k5d (y_2 : Int) (s_8 : Int) (un0_14 : Int) (q1_15 : Int) (un21_17 : Int) (q0_18 : Int)  (K : Int → Int → World → Prop) (w : World) : Prop :=
  0 ≤ s_8 ∧ K (IntKind.wrap .u64 ((IntKind.wrap .u64 (q1_15 * (4294967296 : Int))) + q0_18)) (Int.fdiv (IntKind.wrap .u64 ((IntKind.wrap .u64 ((IntKind.wrap .u64 (un21_17 * (4294967296 : Int))) + un0_14)) - (IntKind.wrap .u64 (q0_18 * y_2)))) (2 ^ (min s_8.toNat (IntKind.bits .u64)))) w
structure bits_Div64_k5 (y_2 : Int) (s_8 : Int) (un0_14 : Int) (q1_15 : Int) (un21_17 : Int) (q0_18 : Int)  (K : Int → Int → World → Prop) (w : World) : Prop where
  out : bits_Div64_k5d y_2 s_8 un0_14 q1_15 un21_17 q0_18 K w

def bits_Div64_k4d (y_2 : Int) (s_8 : Int) (yn1_9 : Int) (yn0_10 : Int) (un0_14 : Int) (q1_15 : Int) (rhat_16 : Int) (un21_17 : Int) (q0_18 : Int) (N3 : Int → Int → Int → Int → Int → Int → Int → Int → Int → World → Prop) (K : Int → Int → World → Prop) (w : World) : Prop :=
  cnd (decide ((IntKind.wrap .u64 (rhat_16 + yn1_9)) ≥ (4294967296 : Int)))
    (bits_Div64_k5 y_2 s_8 un0_14 q1_15 un21_17 (IntKind.wrap .u64 (q0_18 - (1 : Int))) K w)
    (N3 y_2 s_8 yn1_9 yn0_10 un0_14 q1_15 (IntKind.wrap .u64 (rhat_16 + yn1_9)) un21_17 (IntKind.wrap .u64 (q0_18 - (1 : Int))) w)
structure bits_Div64_k4 (y_2 : Int) (s_8 : Int) (yn1_9 : Int) (yn0_10 : Int) (un0_14 : Int) (q1_15 : Int) (rhat_16 : Int) (un21_17 : Int) (q0_18 : Int) (N3 : Int → Int → Int → Int → Int → Int → Int → Int → Int → World → Prop) (K : Int → Int → World → Prop) (w : World) : Prop where
  out : bits_Div64_k4d y_2 s_8 yn1_9 yn0_10 un0_14 q1_15 rhat_16 un21_17 q0_18 N3 K w

def bits_Div64_b3 (y_2 : Int) (s_8 : Int) (yn1_9 : Int) (yn0_10 : Int) (un0_14 : Int) (q1_15 : Int) (rhat_16 : Int) (un21_17 : Int) (q0_18 : Int) (N3 : Int → Int → Int → Int → Int → Int → Int → Int → Int → World → Prop)  (K : Int → Int → World → Prop) (w : World) : Prop :=
  cnd (decide (q0_18 ≥ (4294967296 : Int)))
    (bits_Div64_k4 y_2 s_8 yn1_9 yn0_10 un0_14 q1_15 rhat_16 un21_17 q0_18 N3 K w)
    (cnd (decide ((IntKind.wrap .u64 (q0_18 * yn0_10)) > (IntKind.wrap .u64 ((IntKind.wrap .u64 ((4294967296 : Int) * rhat_16)) + un0_14))))
    (bits_Div64_k4 y_2 s_8 yn1_9 yn0_10 un0_14 q1_15 rhat_16 un21_17 q0_18 N3 K w)
    (bits_Div64_k5 y_2 s_8 un0_14 q1_15 un21_17 q0_18 K w))
def bits_Div64_l3d (y_2 : Int) (s_8 : Int) (yn1_9 : Int) (yn0_10 : Int) (un0_14 : Int) (q1_15 : Int) (rhat_16 : Int) (un21_17 : Int) (q0_18 : Int)  (K : Int → Int → World → Prop) (w : World) : Prop :=
  ∃ (I : Int → Int → World → Prop) (μ : Int → Int → World → Nat), I rhat_16 q0_18 w ∧ ∀ (rhat_161 : Int) (q0_181 : Int) (w1 : World), I rhat_161 q0_181 w1 →
    bits_Div64_b3 y_2 s_8 yn1_9 yn0_10 un0_14 q1_15 rhat_161 un21_17 q0_181 (fun (y_2' : Int) (s_8' : Int) (yn1_9' : Int) (yn0_10' : Int) (un0_14' : Int) (q1_15' : Int) (rhat_16' : Int) (un21_17' : Int) (q0_18' : Int) (w' : World) => ((y_2' = y_2 ∧ s_8' = s_8 ∧ yn1_9' = yn1_9 ∧ yn0_10' = yn0_10 ∧ un0_14' = un0_14 ∧ q1_15' = q1_15 ∧ un21_17' = un21_17 ∧ True) ∧ I rhat_16' q0_18' w') ∧ μ rhat_16' q0_18' w' < μ rhat_161 q0_181 w1)  K w1
structure bits_Div64_l3 (y_2 : Int) (s_8 : Int) (yn1_9 : Int) (yn0_10 : Int) (un0_14 : Int) (q1_15 : Int) (rhat_16 : Int) (un21_17 : Int) (q0_18 : Int)  (K : Int → Int → World → Prop) (w : World) : Prop where
  out : bits_Div64_l3d y_2 s_8 yn1_9 yn0_10 un0_14 q1_15 rhat_16 un21_17 q0_18 K w

def bits_Div64_k2d (y_2 : Int) (s_8 : Int) (yn1_9 : Int) (yn0_10 : Int) (un32_11 : Int) (un1_13 : Int) (un0_14 : Int) (q1_15 : Int)  (K : Int → Int → World → Prop) (w : World) : Prop :=
  yn1_9 ≠ 0 ∧ inR .u64 (Int.tdiv (IntKind.wrap .u64 ((IntKind.wrap .u64 ((IntKind.wrap .u64 (un32_11 * (4294967296 : Int))) + un1_13)) - (IntKind.wrap .u64 (q1_15 * y_2)))) yn1_9) ∧ bits_Div64_l3 y_2 s_8 yn1_9 yn0_10 un0_14 q1_15 (IntKind.wrap .u64 ((IntKind.wrap .u64 ((IntKind.wrap .u64 ((IntKind.wrap .u64 (un32_11 * (4294967296 : Int))) + un1_13)) - (IntKind.wrap .u64 (q1_15 * y_2)))) - (IntKind.wrap .u64 ((Int.tdiv (IntKind.wrap .u64 ((IntKind.wrap .u64 ((IntKind.wrap .u64 (un32_11 * (4294967296 : Int))) + un1_13)) - (IntKind.wrap .u64 (q1_15 * y_2)))) yn1_9) * yn1_9)))) (IntKind.wrap .u64 ((IntKind.wrap .u64 ((IntKind.wrap .u64 (un32_11 * (4294967296 : Int))) + un1_13)) - (IntKind.wrap .u64 (q1_15 * y_2)))) (Int.tdiv (IntKind.wrap .u64 ((IntKind.wrap .u64 ((IntKind.wrap .u64 (un32_11 * (4294967296 : Int))) + un1_13)) - (IntKind.wrap .u64 (q1_15 * y_2)))) yn1_9) K w
structure bits_Div64_k2 (y_2 : Int) (s_8 : Int) (yn1_9 : Int) (yn0_10 : Int) (un32_11 : Int) (un1_13 : Int) (un0_14 : Int) (q1_15 : Int)  (K : Int → Int → World → Prop) (w : World) : Prop where
  out : bits_Div64_k2d y_2 s_8 yn1_9 yn0_10 un32_11 un1_13 un0_14 q1_15 K w

def bits_Div64_k1d (y_2 : Int) (s_8 : Int) (yn1_9 : Int) (yn0_10 : Int) (un32_11 : Int) (un1_13 : Int) (un0_14 : Int) (q1_15 : Int) (rhat_16 : Int) (N0 : Int → Int → Int → Int → Int → Int → Int → Int → Int → World → Prop) (K : Int → Int → World → Prop) (w : World) : Prop :=
  cnd (decide ((IntKind.wrap .u64 (rhat_16 + yn1_9)) ≥ (4294967296 : Int)))
    (bits_Div64_k2 y_2 s_8 yn1_9 yn0_10 un32_11 un1_13 un0_14 (IntKind.wrap .u64 (q1_15 - (1 : Int))) K w)
    (N0 y_2 s_8 yn1_9 yn0_10 un32_11 un1_13 un0_14 (IntKind.wrap .u64 (q1_15 - (1 : Int))) (IntKind.wrap .u64 (rhat_16 + yn1_9)) w)
structure bits_Div64_k1 (y_2 : Int) (s_8 : Int) (yn1_9 : Int) (yn0_10 : Int) (un32_11 : Int) (un1_13 : Int) (un0_14 : Int) (q1_15 : Int) (rhat_16 : Int) (N0 : Int → Int → Int → Int → Int → Int → Int → Int → Int → World → Prop) (K : Int → Int → World → Prop) (w : World) : Prop where
  out : bits_Div64_k1d y_2 s_8 yn1_9 yn0_10 un32_11 un1_13 un0_14 q1_15 rhat_16 N0 K w

def bits_Div64_b0 (y_2 : Int) (s_8 : Int) (yn1_9 : Int) (yn0_10 : Int) (un32_11 : Int) (un1_13 : Int) (un0_14 : Int) (q1_15 : Int) (rhat_16 : Int) (N0 : Int → Int → Int → Int → Int → Int → Int → Int → Int → World → Prop)  (K : Int → Int → World → Prop) (w : World) : Prop :=
  cnd (decide (q1_15 ≥ (4294967296 : Int)))
    (bits_Div64_k1 y_2 s_8 yn1_9 yn0_10 un32_11 un1_13 un0_14 q1_15 rhat_16 N0 K w)
    (cnd (decide ((IntKind.wrap .u64 (q1_15 * yn0_10)) > (IntKind.wrap .u64 ((IntKind.wrap .u64 ((4294967296 : Int) * rhat_16)) + un1_13))))
    (bits_Div64_k1 y_2 s_8 yn1_9 yn0_10 un32_11 un1_13 un0_14 q1_15 rhat_16 N0 K w)
    (bits_Div64_k2 y_2 s_8 yn1_9 yn0_10 un32_11 un1_13 un0_14 q1_15 K w))
def bits_Div64_l0d (y_2 : Int) (s_8 : Int) (yn1_9 : Int) (yn0_10 : Int) (un32_11 : Int) (un1_13 : Int) (un0_14 : Int) (q1_15 : Int) (rhat_16 : Int)  (K : Int → Int → World → Prop) (w : World) : Prop :=
  ∃ (I : Int → Int → World → Prop) (μ : Int → Int → World → Nat), I q1_15 rhat_16 w ∧ ∀ (q1_151 : Int) (rhat_161 : Int) (w1 : World), I q1_151 rhat_161 w1 →
    bits_Div64_b0 y_2 s_8 yn1_9 yn0_10 un32_11 un1_13 un0_14 q1_151 rhat_161 (fun (y_2' : Int) (s_8' : Int) (yn1_9' : Int) (yn0_10' : Int) (un32_11' : Int) (un1_13' : Int) (un0_14' : Int) (q1_15' : Int) (rhat_16' : Int) (w' : World) => ((y_2' = y_2 ∧ s_8' = s_8 ∧ yn1_9' = yn1_9 ∧ yn0_10' = yn0_10 ∧ un32_11' = un32_11 ∧ un1_13' = un1_13 ∧ un0_14' = un0_14 ∧ True) ∧ I q1_15' rhat_16' w') ∧ μ q1_15' rhat_16' w' < μ q1_151 rhat_161 w1)  K w1
structure bits_Div64_l0 (y_2 : Int) (s_8 : Int) (yn1_9 : Int) (yn0_10 : Int) (un32_11 : Int) (un1_13 : Int) (un0_14 : Int) (q1_15 : Int) (rhat_16 : Int)  (K : Int → Int → World → Prop) (w : World) : Prop where
  out : bits_Div64_l0d y_2 s_8 yn1_9 yn0_10 un32_11 un1_13 un0_14 q1_15 rhat_16 K w

def bits_Div64_sd (hi_0 : Int) (lo_1 : Int) (y_2 : Int) (K : Int → Int → World → Prop) (w : World) : Prop :=
  cnd (y_2 == (0 : Int))
    (∃ x1 : Value, w.cell? (Addr.mk 3 0 none) = some x1 ∧ False)
    (cnd (decide (y_2 ≤ hi_0))
    (∃ x2 : Value, w.cell? (Addr.mk 4 0 none) = some x2 ∧ False)
    (cnd (hi_0 == (0 : Int))
    (let w3 : World := w.drew
  y_2 ≠ 0 ∧ inR .u64 (Int.tdiv lo_1 y_2) ∧ y_2 ≠ 0 ∧ K (Int.tdiv lo_1 y_2) (Int.tmod lo_1 y_2) w3)
    (bits_LeadingZeros64_sh y_2 (fun (r5 : Int) (w4 : World) => 0 ≤ (IntKind.wrap .u64 r5) ∧ 0 ≤ (32 : Int) ∧ 0 ≤ (IntKind.wrap .u64 r5) ∧ 0 ≤ (IntKind.wrap .u64 ((64 : Int) - (IntKind.wrap .u64 r5))) ∧ 0 ≤ (IntKind.wrap .u64 r5) ∧ 0 ≤ (32 : Int) ∧ (Int.fdiv (IntKind.wrap .u64 (y_2 * 2 ^ (min (IntKind.wrap .u64 r5).toNat (IntKind.bits .u64)))) (2 ^ (min 32 (IntKind.bits .u64)))) ≠ 0 ∧ inR .u64 (Int.tdiv (IntKind.wrap .u64 (((BitVec.ofInt (IntKind.bits .u64) (IntKind.wrap .u64 (hi_0 * 2 ^ (min (IntKind.wrap .u64 r5).toNat (IntKind.bits .u64)))) ||| BitVec.ofInt (IntKind.bits .u64) (Int.fdiv lo_1 (2 ^ (min (IntKind.wrap .u64 ((64 : Int) - (IntKind.wrap .u64 r5))).toNat (IntKind.bits .u64)))))).toNat : Int)) (Int.fdiv (IntKind.wrap .u64 (y_2 * 2 ^ (min (IntKind.wrap .u64 r5).toNat (IntKind.bits .u64)))) (2 ^ (min 32 (IntKind.bits .u64))))) ∧ bits_Div64_l0 (IntKind.wrap .u64 (y_2 * 2 ^ (min (IntKind.wrap .u64 r5).toNat (IntKind.bits .u64)))) (IntKind.wrap .u64 r5) (Int.fdiv (IntKind.wrap .u64 (y_2 * 2 ^ (min (IntKind.wrap .u64 r5).toNat (IntKind.bits .u64)))) (2 ^ (min 32 (IntKind.bits .u64)))) (IntKind.wrap .u64 (((BitVec.ofInt (IntKind.bits .u64) (IntKind.wrap .u64 (y_2 * 2 ^ (min (IntKind.wrap .u64 r5).toNat (IntKind.bits .u64)))) &&& BitVec.ofInt (IntKind.bits .u64) (4294967295 : Int))).toNat : Int)) (IntKind.wrap .u64 (((BitVec.ofInt (IntKind.bits .u64) (IntKind.wrap .u64 (hi_0 * 2 ^ (min (IntKind.wrap .u64 r5).toNat (IntKind.bits .u64)))) ||| BitVec.ofInt (IntKind.bits .u64) (Int.fdiv lo_1 (2 ^ (min (IntKind.wrap .u64 ((64 : Int) - (IntKind.wrap .u64 r5))).toNat (IntKind.bits .u64)))))).toNat : Int)) (Int.fdiv (IntKind.wrap .u64 (lo_1 * 2 ^ (min (IntKind.wrap .u64 r5).toNat (IntKind.bits .u64)))) (2 ^ (min 32 (IntKind.bits .u64)))) (IntKind.wrap .u64 (((BitVec.ofInt (IntKind.bits .u64) (IntKind.wrap .u64 (lo_1 * 2 ^ (min (IntKind.wrap .u64 r5).toNat (IntKind.bits .u64)))) &&& BitVec.ofInt (IntKind.bits .u64) (4294967295 : Int))).toNat : Int)) (Int.tdiv (IntKind.wrap .u64 (((BitVec.ofInt (IntKind.bits .u64) (IntKind.wrap .u64 (hi_0 * 2 ^ (min (IntKind.wrap .u64 r5).toNat (IntKind.bits .u64)))) ||| BitVec.ofInt (IntKind.bits .u64) (Int.fdiv lo_1 (2 ^ (min (IntKind.wrap .u64 ((64 : Int) - (IntKind.wrap .u64 r5))).toNat (IntKind.bits .u64)))))).toNat : Int)) (Int.fdiv (IntKind.wrap .u64 (y_2 * 2 ^ (min (IntKind.wrap .u64 r5).toNat (IntKind.bits .u64)))) (2 ^ (min 32 (IntKind.bits .u64))))) (IntKind.wrap .u64 ((IntKind.wrap .u64 (((BitVec.ofInt (IntKind.bits .u64) (IntKind.wrap .u64 (hi_0 * 2 ^ (min (IntKind.wrap .u64 r5).toNat (IntKind.bits .u64)))) ||| BitVec.ofInt (IntKind.bits .u64) (Int.fdiv lo_1 (2 ^ (min (IntKind.wrap .u64 ((64 : Int) - (IntKind.wrap .u64 r5))).toNat (IntKind.bits .u64)))))).toNat : Int)) - (IntKind.wrap .u64 ((Int.tdiv (IntKind.wrap .u64 (((BitVec.ofInt (IntKind.bits .u64) (IntKind.wrap .u64 (hi_0 * 2 ^ (min (IntKind.wrap .u64 r5).toNat (IntKind.bits .u64)))) ||| BitVec.ofInt (IntKind.bits .u64) (Int.fdiv lo_1 (2 ^ (min (IntKind.wrap .u64 ((64 : Int) - (IntKind.wrap .u64 r5))).toNat (IntKind.bits .u64)))))).toNat : Int)) (Int.fdiv (IntKind.wrap .u64 (y_2 * 2 ^ (min (IntKind.wrap .u64 r5).toNat (IntKind.bits .u64)))) (2 ^ (min 32 (IntKind.bits .u64))))) * (Int.fdiv (IntKind.wrap .u64 (y_2 * 2 ^ (min (IntKind.wrap .u64 r5).toNat (IntKind.bits .u64)))) (2 ^ (min 32 (IntKind.bits .u64)))))))) K w4) w)))

structure bits_Div64_sh (hi_0 : Int) (lo_1 : Int) (y_2 : Int) (K : Int → Int → World → Prop) (w : World) : Prop where
  out : bits_Div64_sd hi_0 lo_1 y_2 K w

def bits_Div64_P0 (Kv : VW) (ρ : Rho) (vs : List Value) (w : World) : Prop :=
  match ρ, vs with
  | _, [.int .u64 y_2, .int .u64 s_8, .int .u64 yn1_9, .int .u64 yn0_10, .int .u64 un32_11, .int .u64 un1_13, .int .u64 un0_14, .int .u64 q1_15, .int .u64 rhat_16] => bits_Div64_l0 y_2 s_8 yn1_9 yn0_10 un32_11 un1_13 un0_14 q1_15 rhat_16  (fun (r0 : Int) (r1 : Int) (w' : World) => Kv (Value.tuple #[(Value.int .u64 r0), (Value.int .u64 r1)]) w') w
  | _, _ => False

def bits_Div64_P1 (Kv : VW) (ρ : Rho) (vs : List Value) (w : World) : Prop :=
  match ρ, vs with
  | N0 :: _, [.int .u64 y_2, .int .u64 s_8, .int .u64 yn1_9, .int .u64 yn0_10, .int .u64 un32_11, .int .u64 un1_13, .int .u64 un0_14, .int .u64 q1_15, .int .u64 rhat_16] => bits_Div64_k1 y_2 s_8 yn1_9 yn0_10 un32_11 un1_13 un0_14 q1_15 rhat_16 (fun (y_2' : Int) (s_8' : Int) (yn1_9' : Int) (yn0_10' : Int) (un32_11' : Int) (un1_13' : Int) (un0_14' : Int) (q1_15' : Int) (rhat_16' : Int) (w' : World) => N0 [(Value.int .u64 y_2'), (Value.int .u64 s_8'), (Value.int .u64 yn1_9'), (Value.int .u64 yn0_10'), (Value.int .u64 un32_11'), (Value.int .u64 un1_13'), (Value.int .u64 un0_14'), (Value.int .u64 q1_15'), (Value.int .u64 rhat_16')] w') (fun (r0 : Int) (r1 : Int) (w' : World) => Kv (Value.tuple #[(Value.int .u64 r0), (Value.int .u64 r1)]) w') w
  | _, _ => False

def bits_Div64_P2 (Kv : VW) (ρ : Rho) (vs : List Value) (w : World) : Prop :=
  match ρ, vs with
  | _, [.int .u64 y_2, .int .u64 s_8, .int .u64 yn1_9, .int .u64 yn0_10, .int .u64 un32_11, .int .u64 un1_13, .int .u64 un0_14, .int .u64 q1_15] => bits_Div64_k2 y_2 s_8 yn1_9 yn0_10 un32_11 un1_13 un0_14 q1_15  (fun (r0 : Int) (r1 : Int) (w' : World) => Kv (Value.tuple #[(Value.int .u64 r0), (Value.int .u64 r1)]) w') w
  | _, _ => False

def bits_Div64_P3 (Kv : VW) (ρ : Rho) (vs : List Value) (w : World) : Prop :=
  match ρ, vs with
  | _, [.int .u64 y_2, .int .u64 s_8, .int .u64 yn1_9, .int .u64 yn0_10, .int .u64 un0_14, .int .u64 q1_15, .int .u64 rhat_16, .int .u64 un21_17, .int .u64 q0_18] => bits_Div64_l3 y_2 s_8 yn1_9 yn0_10 un0_14 q1_15 rhat_16 un21_17 q0_18  (fun (r0 : Int) (r1 : Int) (w' : World) => Kv (Value.tuple #[(Value.int .u64 r0), (Value.int .u64 r1)]) w') w
  | _, _ => False

def bits_Div64_P4 (Kv : VW) (ρ : Rho) (vs : List Value) (w : World) : Prop :=
  match ρ, vs with
  | N3 :: _, [.int .u64 y_2, .int .u64 s_8, .int .u64 yn1_9, .int .u64 yn0_10, .int .u64 un0_14, .int .u64 q1_15, .int .u64 rhat_16, .int .u64 un21_17, .int .u64 q0_18] => bits_Div64_k4 y_2 s_8 yn1_9 yn0_10 un0_14 q1_15 rhat_16 un21_17 q0_18 (fun (y_2' : Int) (s_8' : Int) (yn1_9' : Int) (yn0_10' : Int) (un0_14' : Int) (q1_15' : Int) (rhat_16' : Int) (un21_17' : Int) (q0_18' : Int) (w' : World) => N3 [(Value.int .u64 y_2'), (Value.int .u64 s_8'), (Value.int .u64 yn1_9'), (Value.int .u64 yn0_10'), (Value.int .u64 un0_14'), (Value.int .u64 q1_15'), (Value.int .u64 rhat_16'), (Value.int .u64 un21_17'), (Value.int .u64 q0_18')] w') (fun (r0 : Int) (r1 : Int) (w' : World) => Kv (Value.tuple #[(Value.int .u64 r0), (Value.int .u64 r1)]) w') w
  | _, _ => False

def bits_Div64_P5 (Kv : VW) (ρ : Rho) (vs : List Value) (w : World) : Prop :=
  match ρ, vs with
  | _, [.int .u64 y_2, .int .u64 s_8, .int .u64 un0_14, .int .u64 q1_15, .int .u64 un21_17, .int .u64 q0_18] => bits_Div64_k5 y_2 s_8 un0_14 q1_15 un21_17 q0_18  (fun (r0 : Int) (r1 : Int) (w' : World) => Kv (Value.tuple #[(Value.int .u64 r0), (Value.int .u64 r1)]) w') w
  | _, _ => False

noncomputable def bits_Div64_S : Pw.Spec := fun vs w Kv =>
  match vs with
  | [.int .u64 hi_0, .int .u64 lo_1, .int .u64 y_2] => bits_Div64_sh hi_0 lo_1 y_2 (fun (r0 : Int) (r1 : Int) (w' : World) => Kv (Value.tuple #[(Value.int .u64 r0), (Value.int .u64 r1)]) w') w
  | _ => False

noncomputable def bits_Div64_E : Pw.Env := [(105, bits_LeadingZeros64_S)]

noncomputable def bits_Div64_C : Code := (Tryz.f91.body).getD .skip

noncomputable def bits_Div64_A (Kv : VW) : Pw.A :=
  (A.seq (A.reg (RA.run (RA.run RA.done)))
   (A.seq (A.seq (A.reg (RA.run (RA.run RA.done)))
   (A.cond (A.reg (RA.run (RA.run RA.done)))
   A.leaf))
   (A.seq (A.seq (A.reg (RA.run (RA.run (RA.run RA.done))))
   (A.cond (A.reg (RA.run (RA.run RA.done)))
   A.leaf))
   (A.seq (A.seq (A.reg (RA.run (RA.run RA.done)))
   (A.cond (A.seq (A.drp (DA.pur 0 (DA.pur 1 (DA.pur 2 (DA.pur 3 (DA.pur 4 (DA.pur 5 (DA.pur 6 (DA.pur 7 DA.done)))))))))
   A.leaf)
   A.leaf))
   (A.seq (A.reg (RA.run (RA.run (RA.raw (RA.run RA.done)))))
   (A.seq (A.reg (RA.run (RA.run (RA.run (RA.run RA.done)))))
   (A.seq (A.reg (RA.run (RA.run (RA.run RA.done))))
   (A.seq (A.reg (RA.run (RA.run (RA.run RA.done))))
   (A.seq (A.reg (RA.run (RA.run (RA.run (RA.run (RA.run (RA.raw (RA.run (RA.run (RA.run RA.done))))))))))
   (A.seq (A.reg (RA.run (RA.run (RA.run (RA.run RA.done)))))
   (A.seq (A.reg (RA.run (RA.run (RA.run RA.done))))
   (A.seq (A.reg (RA.run (RA.run (RA.run RA.done))))
   (A.seq (A.reg (RA.run (RA.run (RA.run (RA.run RA.done)))))
   (A.seq (A.reg (RA.run (RA.run (RA.run (RA.raw (RA.raw (RA.run RA.done)))))))
   (A.seq (A.blk (A.loop [2, 8, 9, 10, 11, 13, 14, 15, 16] (bits_Div64_P0 Kv) (A.seq (A.seq (A.reg (RA.run (RA.run (RA.run (RA.spl 69 (RA.skp (RA.skp (RA.skp (RA.skp (RA.skp (RA.skp (RA.skp (RA.skp (RA.run RA.done))))))))) (RA.run (RA.run (RA.raw (RA.run (RA.raw (RA.run (RA.raw (RA.run (RA.run RA.done))))))))))))))
   (A.cond A.leaf
   A.leaf))
   (A.cut [2, 8, 9, 10, 11, 13, 14, 15, 16] (bits_Div64_P1 Kv) (A.blk (A.seq (A.reg (RA.run (RA.raw (RA.run RA.done))))
   (A.seq (A.reg (RA.run (RA.run (RA.raw (RA.run RA.done)))))
   (A.seq (A.reg (RA.run (RA.run RA.done)))
   (A.cond A.leaf
   A.leaf)))))))))
   (A.cut [2, 8, 9, 10, 11, 13, 14, 15] (bits_Div64_P2 Kv) (A.seq (A.reg (RA.run (RA.raw (RA.run (RA.raw (RA.run (RA.run (RA.raw (RA.raw (RA.run RA.done))))))))))
   (A.seq (A.reg (RA.run (RA.run (RA.run (RA.run RA.done)))))
   (A.seq (A.reg (RA.run (RA.run (RA.run (RA.raw (RA.raw (RA.run RA.done)))))))
   (A.seq (A.blk (A.loop [2, 8, 9, 10, 14, 15, 16, 17, 18] (bits_Div64_P3 Kv) (A.seq (A.seq (A.reg (RA.run (RA.run (RA.run (RA.spl 104 (RA.skp (RA.skp (RA.skp (RA.skp (RA.skp (RA.skp (RA.skp (RA.skp (RA.run RA.done))))))))) (RA.run (RA.run (RA.raw (RA.run (RA.raw (RA.run (RA.raw (RA.run (RA.run RA.done))))))))))))))
   (A.cond A.leaf
   A.leaf))
   (A.cut [2, 8, 9, 10, 14, 15, 16, 17, 18] (bits_Div64_P4 Kv) (A.blk (A.seq (A.reg (RA.run (RA.raw (RA.run RA.done))))
   (A.seq (A.reg (RA.run (RA.run (RA.raw (RA.run RA.done)))))
   (A.seq (A.reg (RA.run (RA.run RA.done)))
   (A.cond A.leaf
   A.leaf)))))))))
   (A.cut [2, 8, 14, 15, 17, 18] (bits_Div64_P5 Kv) (A.seq (A.reg (RA.run (RA.raw (RA.run (RA.raw (RA.run (RA.raw (RA.run (RA.raw (RA.run (RA.run (RA.raw (RA.raw (RA.run (RA.run (RA.run (RA.run RA.done)))))))))))))))))
   A.leaf))))))))))))))))))))))

noncomputable def bits_Div64_O (Kv : VW) : List Ob := (obs Tryz.prog bits_Div64_E 135 (bits_Div64_A Kv) bits_Div64_C (fun _ => retQ Tryz.prog Tryz.f91.results Kv))

theorem bits_Div64_e (Kv : VW) (hi_0 : Int) (lo_1 : Int) (y_2 : Int) (w : World) : bits_Div64_sd hi_0 lo_1 y_2 (fun (r0 : Int) (r1 : Int) (w' : World) => Kv (Value.tuple #[(Value.int .u64 r0), (Value.int .u64 r1)]) w') w = W Tryz.prog bits_Div64_E 135 (bits_Div64_A Kv) bits_Div64_C [] (retQ Tryz.prog Tryz.f91.results Kv) [] (startS [(Value.int .u64 hi_0), (Value.int .u64 lo_1), (Value.int .u64 y_2)]) w := by kernel_rfl

theorem bits_Div64_e0 (Kv : VW) (N0 : List Value → World → Prop) (ρ : Rho) (y_2 : Int) (s_8 : Int) (yn1_9 : Int) (yn0_10 : Int) (un32_11 : Int) (un1_13 : Int) (un0_14 : Int) (q1_15 : Int) (rhat_16 : Int) (w : World) : bits_Div64_b0 y_2 s_8 yn1_9 yn0_10 un32_11 un1_13 un0_14 q1_15 rhat_16 (fun (y_2' : Int) (s_8' : Int) (yn1_9' : Int) (yn0_10' : Int) (un32_11' : Int) (un1_13' : Int) (un0_14' : Int) (q1_15' : Int) (rhat_16' : Int) (w' : World) => N0 [(Value.int .u64 y_2'), (Value.int .u64 s_8'), (Value.int .u64 yn1_9'), (Value.int .u64 yn0_10'), (Value.int .u64 un32_11'), (Value.int .u64 un1_13'), (Value.int .u64 un0_14'), (Value.int .u64 q1_15'), (Value.int .u64 rhat_16')] w')  (fun (r0 : Int) (r1 : Int) (w' : World) => Kv (Value.tuple #[(Value.int .u64 r0), (Value.int .u64 r1)]) w') w = goalAt Tryz.prog bits_Div64_E 135 (bits_Div64_O Kv) 0 (N0 :: ρ) [(Value.int .u64 y_2), (Value.int .u64 s_8), (Value.int .u64 yn1_9), (Value.int .u64 yn0_10), (Value.int .u64 un32_11), (Value.int .u64 un1_13), (Value.int .u64 un0_14), (Value.int .u64 q1_15), (Value.int .u64 rhat_16)] w := by kernel_rfl

theorem bits_Div64_q0 (Kv : VW) (ρ : Rho) (vs : List Value) (w : World) : labAt (bits_Div64_O Kv) 0 ρ vs w = bits_Div64_P0 Kv ρ vs w := by kernel_rfl

def bits_Div64_I0 (y_20 : Int) (s_80 : Int) (yn1_90 : Int) (yn0_100 : Int) (un32_110 : Int) (un1_130 : Int) (un0_140 : Int) (I : Int → Int → World → Prop) (vs : List Value) (w : World) : Prop :=
  match vs with
  | [.int .u64 y_2, .int .u64 s_8, .int .u64 yn1_9, .int .u64 yn0_10, .int .u64 un32_11, .int .u64 un1_13, .int .u64 un0_14, .int .u64 q1_15, .int .u64 rhat_16] => (y_2 = y_20 ∧ s_8 = s_80 ∧ yn1_9 = yn1_90 ∧ yn0_10 = yn0_100 ∧ un32_11 = un32_110 ∧ un1_13 = un1_130 ∧ un0_14 = un0_140 ∧ True) ∧ I q1_15 rhat_16 w
  | _ => False

def bits_Div64_M0 (μ : Int → Int → World → Nat) (vs : List Value) (w : World) : Nat :=
  match vs with
  | [.int .u64 _y_2, .int .u64 _s_8, .int .u64 _yn1_9, .int .u64 _yn0_10, .int .u64 _un32_11, .int .u64 _un1_13, .int .u64 _un0_14, .int .u64 q1_15, .int .u64 rhat_16] => μ q1_15 rhat_16 w
  | _ => 0

theorem bits_Div64_h0 (Kv : VW) : holdsAt Tryz.prog bits_Div64_E 135 (bits_Div64_O Kv) 0 := holdsAt_loop (by kernel_rfl) (fun ρ vs w h => by
  rw [bits_Div64_q0] at h
  unfold bits_Div64_P0 at h
  split at h
  · rename_i ρt y_2 s_8 yn1_9 yn0_10 un32_11 un1_13 un0_14 q1_15 rhat_16
    obtain ⟨I, μ, h0, hr⟩ := h.out
    refine ⟨bits_Div64_I0 y_2 s_8 yn1_9 yn0_10 un32_11 un1_13 un0_14 I, bits_Div64_M0 μ, ⟨⟨rfl, rfl, rfl, rfl, rfl, rfl, rfl, trivial⟩, h0⟩, fun vs w hI => ?_⟩
    unfold bits_Div64_I0 at hI
    split at hI
    · obtain ⟨⟨h0, h1, h2, h3, h4, h5, h6, _⟩, hI⟩ := hI
      cases h0; cases h1; cases h2; cases h3; cases h4; cases h5; cases h6
      rw [← bits_Div64_e0]
      exact hr _ _ _ hI
    · exact hI.elim
  · exact h.elim)

theorem bits_Div64_e1 (Kv : VW) (N0 : List Value → World → Prop) (ρ : Rho) (y_2 : Int) (s_8 : Int) (yn1_9 : Int) (yn0_10 : Int) (un32_11 : Int) (un1_13 : Int) (un0_14 : Int) (q1_15 : Int) (rhat_16 : Int) (w : World) : bits_Div64_k1d y_2 s_8 yn1_9 yn0_10 un32_11 un1_13 un0_14 q1_15 rhat_16 (fun (y_2' : Int) (s_8' : Int) (yn1_9' : Int) (yn0_10' : Int) (un32_11' : Int) (un1_13' : Int) (un0_14' : Int) (q1_15' : Int) (rhat_16' : Int) (w' : World) => N0 [(Value.int .u64 y_2'), (Value.int .u64 s_8'), (Value.int .u64 yn1_9'), (Value.int .u64 yn0_10'), (Value.int .u64 un32_11'), (Value.int .u64 un1_13'), (Value.int .u64 un0_14'), (Value.int .u64 q1_15'), (Value.int .u64 rhat_16')] w') (fun (r0 : Int) (r1 : Int) (w' : World) => Kv (Value.tuple #[(Value.int .u64 r0), (Value.int .u64 r1)]) w') w = goalAt Tryz.prog bits_Div64_E 135 (bits_Div64_O Kv) 1 (N0 :: ρ) [(Value.int .u64 y_2), (Value.int .u64 s_8), (Value.int .u64 yn1_9), (Value.int .u64 yn0_10), (Value.int .u64 un32_11), (Value.int .u64 un1_13), (Value.int .u64 un0_14), (Value.int .u64 q1_15), (Value.int .u64 rhat_16)] w := by kernel_rfl

theorem bits_Div64_q1 (Kv : VW) (ρ : Rho) (vs : List Value) (w : World) : labAt (bits_Div64_O Kv) 1 ρ vs w = bits_Div64_P1 Kv ρ vs w := by kernel_rfl

theorem bits_Div64_h1 (Kv : VW) : holdsAt Tryz.prog bits_Div64_E 135 (bits_Div64_O Kv) 1 := holdsAt_cut (.inl (by kernel_rfl)) (fun ρ vs w h => by
  rw [bits_Div64_q1] at h
  unfold bits_Div64_P1 at h
  split at h
  · rw [← bits_Div64_e1]; exact h.out
  · exact h.elim)

theorem bits_Div64_e2 (Kv : VW) (ρ : Rho) (y_2 : Int) (s_8 : Int) (yn1_9 : Int) (yn0_10 : Int) (un32_11 : Int) (un1_13 : Int) (un0_14 : Int) (q1_15 : Int) (w : World) : bits_Div64_k2d y_2 s_8 yn1_9 yn0_10 un32_11 un1_13 un0_14 q1_15  (fun (r0 : Int) (r1 : Int) (w' : World) => Kv (Value.tuple #[(Value.int .u64 r0), (Value.int .u64 r1)]) w') w = goalAt Tryz.prog bits_Div64_E 135 (bits_Div64_O Kv) 2 (ρ) [(Value.int .u64 y_2), (Value.int .u64 s_8), (Value.int .u64 yn1_9), (Value.int .u64 yn0_10), (Value.int .u64 un32_11), (Value.int .u64 un1_13), (Value.int .u64 un0_14), (Value.int .u64 q1_15)] w := by kernel_rfl

theorem bits_Div64_q2 (Kv : VW) (ρ : Rho) (vs : List Value) (w : World) : labAt (bits_Div64_O Kv) 2 ρ vs w = bits_Div64_P2 Kv ρ vs w := by kernel_rfl

theorem bits_Div64_h2 (Kv : VW) : holdsAt Tryz.prog bits_Div64_E 135 (bits_Div64_O Kv) 2 := holdsAt_cut (.inl (by kernel_rfl)) (fun ρ vs w h => by
  rw [bits_Div64_q2] at h
  unfold bits_Div64_P2 at h
  split at h
  · rw [← bits_Div64_e2]; exact h.out
  · exact h.elim)

theorem bits_Div64_e3 (Kv : VW) (N3 : List Value → World → Prop) (ρ : Rho) (y_2 : Int) (s_8 : Int) (yn1_9 : Int) (yn0_10 : Int) (un0_14 : Int) (q1_15 : Int) (rhat_16 : Int) (un21_17 : Int) (q0_18 : Int) (w : World) : bits_Div64_b3 y_2 s_8 yn1_9 yn0_10 un0_14 q1_15 rhat_16 un21_17 q0_18 (fun (y_2' : Int) (s_8' : Int) (yn1_9' : Int) (yn0_10' : Int) (un0_14' : Int) (q1_15' : Int) (rhat_16' : Int) (un21_17' : Int) (q0_18' : Int) (w' : World) => N3 [(Value.int .u64 y_2'), (Value.int .u64 s_8'), (Value.int .u64 yn1_9'), (Value.int .u64 yn0_10'), (Value.int .u64 un0_14'), (Value.int .u64 q1_15'), (Value.int .u64 rhat_16'), (Value.int .u64 un21_17'), (Value.int .u64 q0_18')] w')  (fun (r0 : Int) (r1 : Int) (w' : World) => Kv (Value.tuple #[(Value.int .u64 r0), (Value.int .u64 r1)]) w') w = goalAt Tryz.prog bits_Div64_E 135 (bits_Div64_O Kv) 3 (N3 :: ρ) [(Value.int .u64 y_2), (Value.int .u64 s_8), (Value.int .u64 yn1_9), (Value.int .u64 yn0_10), (Value.int .u64 un0_14), (Value.int .u64 q1_15), (Value.int .u64 rhat_16), (Value.int .u64 un21_17), (Value.int .u64 q0_18)] w := by kernel_rfl

theorem bits_Div64_q3 (Kv : VW) (ρ : Rho) (vs : List Value) (w : World) : labAt (bits_Div64_O Kv) 3 ρ vs w = bits_Div64_P3 Kv ρ vs w := by kernel_rfl

def bits_Div64_I3 (y_20 : Int) (s_80 : Int) (yn1_90 : Int) (yn0_100 : Int) (un0_140 : Int) (q1_150 : Int) (un21_170 : Int) (I : Int → Int → World → Prop) (vs : List Value) (w : World) : Prop :=
  match vs with
  | [.int .u64 y_2, .int .u64 s_8, .int .u64 yn1_9, .int .u64 yn0_10, .int .u64 un0_14, .int .u64 q1_15, .int .u64 rhat_16, .int .u64 un21_17, .int .u64 q0_18] => (y_2 = y_20 ∧ s_8 = s_80 ∧ yn1_9 = yn1_90 ∧ yn0_10 = yn0_100 ∧ un0_14 = un0_140 ∧ q1_15 = q1_150 ∧ un21_17 = un21_170 ∧ True) ∧ I rhat_16 q0_18 w
  | _ => False

def bits_Div64_M3 (μ : Int → Int → World → Nat) (vs : List Value) (w : World) : Nat :=
  match vs with
  | [.int .u64 _y_2, .int .u64 _s_8, .int .u64 _yn1_9, .int .u64 _yn0_10, .int .u64 _un0_14, .int .u64 _q1_15, .int .u64 rhat_16, .int .u64 _un21_17, .int .u64 q0_18] => μ rhat_16 q0_18 w
  | _ => 0

theorem bits_Div64_h3 (Kv : VW) : holdsAt Tryz.prog bits_Div64_E 135 (bits_Div64_O Kv) 3 := holdsAt_loop (by kernel_rfl) (fun ρ vs w h => by
  rw [bits_Div64_q3] at h
  unfold bits_Div64_P3 at h
  split at h
  · rename_i ρt y_2 s_8 yn1_9 yn0_10 un0_14 q1_15 rhat_16 un21_17 q0_18
    obtain ⟨I, μ, h0, hr⟩ := h.out
    refine ⟨bits_Div64_I3 y_2 s_8 yn1_9 yn0_10 un0_14 q1_15 un21_17 I, bits_Div64_M3 μ, ⟨⟨rfl, rfl, rfl, rfl, rfl, rfl, rfl, trivial⟩, h0⟩, fun vs w hI => ?_⟩
    unfold bits_Div64_I3 at hI
    split at hI
    · obtain ⟨⟨h0, h1, h2, h3, h4, h5, h6, _⟩, hI⟩ := hI
      cases h0; cases h1; cases h2; cases h3; cases h4; cases h5; cases h6
      rw [← bits_Div64_e3]
      exact hr _ _ _ hI
    · exact hI.elim
  · exact h.elim)

theorem bits_Div64_e4 (Kv : VW) (N3 : List Value → World → Prop) (ρ : Rho) (y_2 : Int) (s_8 : Int) (yn1_9 : Int) (yn0_10 : Int) (un0_14 : Int) (q1_15 : Int) (rhat_16 : Int) (un21_17 : Int) (q0_18 : Int) (w : World) : bits_Div64_k4d y_2 s_8 yn1_9 yn0_10 un0_14 q1_15 rhat_16 un21_17 q0_18 (fun (y_2' : Int) (s_8' : Int) (yn1_9' : Int) (yn0_10' : Int) (un0_14' : Int) (q1_15' : Int) (rhat_16' : Int) (un21_17' : Int) (q0_18' : Int) (w' : World) => N3 [(Value.int .u64 y_2'), (Value.int .u64 s_8'), (Value.int .u64 yn1_9'), (Value.int .u64 yn0_10'), (Value.int .u64 un0_14'), (Value.int .u64 q1_15'), (Value.int .u64 rhat_16'), (Value.int .u64 un21_17'), (Value.int .u64 q0_18')] w') (fun (r0 : Int) (r1 : Int) (w' : World) => Kv (Value.tuple #[(Value.int .u64 r0), (Value.int .u64 r1)]) w') w = goalAt Tryz.prog bits_Div64_E 135 (bits_Div64_O Kv) 4 (N3 :: ρ) [(Value.int .u64 y_2), (Value.int .u64 s_8), (Value.int .u64 yn1_9), (Value.int .u64 yn0_10), (Value.int .u64 un0_14), (Value.int .u64 q1_15), (Value.int .u64 rhat_16), (Value.int .u64 un21_17), (Value.int .u64 q0_18)] w := by kernel_rfl

theorem bits_Div64_q4 (Kv : VW) (ρ : Rho) (vs : List Value) (w : World) : labAt (bits_Div64_O Kv) 4 ρ vs w = bits_Div64_P4 Kv ρ vs w := by kernel_rfl

theorem bits_Div64_h4 (Kv : VW) : holdsAt Tryz.prog bits_Div64_E 135 (bits_Div64_O Kv) 4 := holdsAt_cut (.inl (by kernel_rfl)) (fun ρ vs w h => by
  rw [bits_Div64_q4] at h
  unfold bits_Div64_P4 at h
  split at h
  · rw [← bits_Div64_e4]; exact h.out
  · exact h.elim)

theorem bits_Div64_e5 (Kv : VW) (ρ : Rho) (y_2 : Int) (s_8 : Int) (un0_14 : Int) (q1_15 : Int) (un21_17 : Int) (q0_18 : Int) (w : World) : bits_Div64_k5d y_2 s_8 un0_14 q1_15 un21_17 q0_18  (fun (r0 : Int) (r1 : Int) (w' : World) => Kv (Value.tuple #[(Value.int .u64 r0), (Value.int .u64 r1)]) w') w = goalAt Tryz.prog bits_Div64_E 135 (bits_Div64_O Kv) 5 (ρ) [(Value.int .u64 y_2), (Value.int .u64 s_8), (Value.int .u64 un0_14), (Value.int .u64 q1_15), (Value.int .u64 un21_17), (Value.int .u64 q0_18)] w := by kernel_rfl

theorem bits_Div64_q5 (Kv : VW) (ρ : Rho) (vs : List Value) (w : World) : labAt (bits_Div64_O Kv) 5 ρ vs w = bits_Div64_P5 Kv ρ vs w := by kernel_rfl

theorem bits_Div64_h5 (Kv : VW) : holdsAt Tryz.prog bits_Div64_E 135 (bits_Div64_O Kv) 5 := holdsAt_cut (.inl (by kernel_rfl)) (fun ρ vs w h => by
  rw [bits_Div64_q5] at h
  unfold bits_Div64_P5 at h
  split at h
  · rw [← bits_Div64_e5]; exact h.out
  · exact h.elim)

theorem bits_Div64_n (Kv : VW) : obAt (bits_Div64_O Kv) 6 = none := by kernel_rfl

theorem bits_Div64_h (Kv : VW) : ∀ k, holdsAt Tryz.prog bits_Div64_E 135 (bits_Div64_O Kv) k := fun k => match k with
  | 0 => bits_Div64_h0 Kv
  | 1 => bits_Div64_h1 Kv
  | 2 => bits_Div64_h2 Kv
  | 3 => bits_Div64_h3 Kv
  | 4 => bits_Div64_h4 Kv
  | 5 => bits_Div64_h5 Kv
  | _k + 6 => holdsAt_ge (bits_Div64_n Kv) (Nat.le_add_left _ _)

theorem bits_Div64_ok : Sound Tryz.prog 91 bits_Div64_S := ⟨Tryz.call91, fun vs w Kv h => by
  unfold bits_Div64_S at h
  split at h
  · have h := h.out
    rw [bits_Div64_e] at h
    exact calls_sound (Γ := bits_Div64_E) progMixed ⟨.inl bits_LeadingZeros64_ok, trivial⟩ Tryz.func91 (code := bits_Div64_C) (by kernel_rfl) (bits_Div64_A Kv) Kv (holds_all (bits_Div64_h Kv)) (Nat.le_of_ble_eq_true (by kernel_rfl)) h
  · exact h.elim⟩

/-! ratio_wide_over -/
def ratio_wide_over_sd (a_0_0 : Int) (a_0_1 : Int) (b_1 : Int) (K : Int → Int → Int → World → Prop) (w : World) : Prop :=
  let w1 : World := w.alloc (Obj.cells #[(Value.int .u64 a_0_0), (Value.int .u64 a_0_1)] 67)
  let w2 : World := w1.alloc (Obj.cells #[(Value.int .u64 (0 : Int)), (Value.int .u64 (0 : Int))] 67)
  let w3 : World := w2.drew
  ∃ x4 : Int, w3.cell? (Addr.mk w.heap.size 0 none) = some (Value.int .u64 x4) ∧ b_1 ≠ 0 ∧ inR .u64 (Int.tdiv x4 b_1) ∧ ∃ x5 : Int, w3.cell? (Addr.mk w.heap.size 0 none) = some (Value.int .u64 x5) ∧ b_1 ≠ 0 ∧ ∃ x6 : Int, w3.cell? (Addr.mk w.heap.size 1 none) = some (Value.int .u64 x6) ∧ bits_Div64_sh (Int.tmod x5 b_1) x6 b_1 (fun (r8 : Int) (r9 : Int) (w7 : World) => wrOk w7 (Addr.mk w1.heap.size 0 none) ∧ 
  (let w10 : World := w7.setCell (Addr.mk w1.heap.size 0 none) (Value.int .u64 (Int.tdiv x4 b_1))
  wrOk w10 (Addr.mk w1.heap.size 1 none) ∧ 
  (let w11 : World := w10.setCell (Addr.mk w1.heap.size 1 none) (Value.int .u64 r8)
  ∃ x12 : Int, w11.cell? (Addr.mk w1.heap.size 0 none) = some (Value.int .u64 x12) ∧ ∃ x13 : Int, w11.cell? (Addr.mk w1.heap.size 1 none) = some (Value.int .u64 x13) ∧ K x12 x13 r9 w11))) w3

structure ratio_wide_over_sh (a_0_0 : Int) (a_0_1 : Int) (b_1 : Int) (K : Int → Int → Int → World → Prop) (w : World) : Prop where
  out : ratio_wide_over_sd a_0_0 a_0_1 b_1 K w

noncomputable def ratio_wide_over_S : Pw.Spec := fun vs w Kv =>
  match vs with
  | [.agg ⟨[.int .u64 a_0_0, .int .u64 a_0_1]⟩, .int .u64 b_1] => ratio_wide_over_sh a_0_0 a_0_1 b_1 (fun (r0_0 : Int) (r0_1 : Int) (r1 : Int) (w' : World) => Kv (Value.tuple #[(Value.agg #[(Value.int .u64 r0_0), (Value.int .u64 r0_1)]), (Value.int .u64 r1)]) w') w
  | _ => False

noncomputable def ratio_wide_over_E : Pw.Env := [(91, bits_Div64_S)]

noncomputable def ratio_wide_over_C : Code := (Tryz.f70.body).getD .skip

noncomputable def ratio_wide_over_A (_Kv : VW) : Pw.A :=
  (A.seq (A.reg (RA.run (RA.run (RA.run RA.done))))
   (A.seq (A.drp (DA.pur 0 (DA.pur 1 (DA.pur 2 (DA.pur 3 (DA.pur 4 (DA.pur 5 (DA.pur 6 (DA.pur 7 (DA.pur 8 (DA.pur 9 DA.done)))))))))))
   (A.seq (A.reg (RA.run (RA.run (RA.run (RA.run (RA.run (RA.run (RA.run (RA.run (RA.run (RA.run RA.done)))))))))))
   (A.seq (A.reg (RA.run (RA.run (RA.run (RA.run (RA.run (RA.run RA.done)))))))
   A.leaf))))

noncomputable def ratio_wide_over_O (Kv : VW) : List Ob := (obs Tryz.prog ratio_wide_over_E 29 (ratio_wide_over_A Kv) ratio_wide_over_C (fun _ => retQ Tryz.prog Tryz.f70.results Kv))

theorem ratio_wide_over_e (Kv : VW) (a_0_0 : Int) (a_0_1 : Int) (b_1 : Int) (w : World) : ratio_wide_over_sd a_0_0 a_0_1 b_1 (fun (r0_0 : Int) (r0_1 : Int) (r1 : Int) (w' : World) => Kv (Value.tuple #[(Value.agg #[(Value.int .u64 r0_0), (Value.int .u64 r0_1)]), (Value.int .u64 r1)]) w') w = W Tryz.prog ratio_wide_over_E 29 (ratio_wide_over_A Kv) ratio_wide_over_C [] (retQ Tryz.prog Tryz.f70.results Kv) [] (startS [(Value.agg #[(Value.int .u64 a_0_0), (Value.int .u64 a_0_1)]), (Value.int .u64 b_1)]) w := by kernel_rfl

theorem ratio_wide_over_n (Kv : VW) : obAt (ratio_wide_over_O Kv) 0 = none := by kernel_rfl

theorem ratio_wide_over_h (Kv : VW) : ∀ k, holdsAt Tryz.prog ratio_wide_over_E 29 (ratio_wide_over_O Kv) k := fun _ => holdsAt_ge (ratio_wide_over_n Kv) (Nat.zero_le _)

theorem ratio_wide_over_ok : Sound Tryz.prog 70 ratio_wide_over_S := ⟨Tryz.call70, fun vs w Kv h => by
  unfold ratio_wide_over_S at h
  split at h
  · have h := h.out
    rw [ratio_wide_over_e] at h
    exact calls_sound (Γ := ratio_wide_over_E) progMixed ⟨.inl bits_Div64_ok, trivial⟩ Tryz.func70 (code := ratio_wide_over_C) (by kernel_rfl) (ratio_wide_over_A Kv) Kv (holds_all (ratio_wide_over_h Kv)) (Nat.le_of_ble_eq_true (by kernel_rfl)) h
  · exact h.elim⟩

/-! ratio_sum -/
def ratio_sum_k1d (x_2 : Addr) (y_3 : Addr) (t_4 : Addr) (g_6 : Int) (n_9 : Addr) (sign_10 : Bool)  (K : Int → Int → Bool → World → Prop) (w : World) : Prop :=
  ∃ x149 : Int, w.cell? n_9 = some (Value.int .u64 x149) ∧ ∃ x150 : Int, w.cell? (n_9.add 1) = some (Value.int .u64 x150) ∧ cnd (x149 == (0 : Int) && (x150 == (0 : Int) && true))
    (ratio_zero_sh (fun (r152_0 : Int) (r152_1 : Int) (w151 : World) => wrOk w151 t_4 ∧ 
  (let w153 : World := w151.setCell t_4 (Value.int .i64 r152_0)
  wrOk w153 (t_4.add 1) ∧ 
  (let w154 : World := w153.setCell (t_4.add 1) (Value.int .i64 r152_1)
  ∃ x155 : Int, w154.cell? t_4 = some (Value.int .i64 x155) ∧ ∃ x156 : Int, w154.cell? (t_4.add 1) = some (Value.int .i64 x156) ∧ K x155 x156 true w154))) w)
    (∃ x157 : Int, w.cell? n_9 = some (Value.int .u64 x157) ∧ ∃ x158 : Int, w.cell? (n_9.add 1) = some (Value.int .u64 x158) ∧ ratio_wide_over_sh x157 x158 g_6 (fun (r160_0 : Int) (r160_1 : Int) (r161 : Int) (w159 : World) => let w162 : World := w159.alloc (Obj.cells #[(Value.int .u64 (0 : Int)), (Value.int .u64 (0 : Int))] 67)
  wrOk w162 (Addr.mk w159.heap.size 0 none) ∧ 
  (let w163 : World := w162.setCell (Addr.mk w159.heap.size 0 none) (Value.int .u64 r160_0)
  wrOk w163 (Addr.mk w159.heap.size 1 none) ∧ 
  (let w164 : World := w163.setCell (Addr.mk w159.heap.size 1 none) (Value.int .u64 r160_1)
  ratio_gcd_sh g_6 r161 (fun (r166 : Int) (w165 : World) => ∃ x167 : Int, w165.cell? n_9 = some (Value.int .u64 x167) ∧ ∃ x168 : Int, w165.cell? (n_9.add 1) = some (Value.int .u64 x168) ∧ ratio_wide_over_sh x167 x168 r166 (fun (r170_0 : Int) (r170_1 : Int) (_r171 : Int) (w169 : World) => wrOk w169 n_9 ∧ 
  (let w172 : World := w169.setCell n_9 (Value.int .u64 r170_0)
  wrOk w172 (n_9.add 1) ∧ 
  (let w173 : World := w172.setCell (n_9.add 1) (Value.int .u64 r170_1)
  let w174 : World := w173.drew
  ∃ S175 : World → Prop, S175 w174 ∧ ∃ x176 : Int, (∀ w' : World, S175 w' → w'.cell? n_9 = some (Value.int .u64 x176)) ∧ ∃ x177 : Int, (∀ w' : World, S175 w' → w'.cell? (n_9.add 1) = some (Value.int .u64 x177)) ∧ ∃ x178 : Int, (∀ w' : World, S175 w' → w'.cell? (x_2.add 2) = some (Value.int .u64 x178)) ∧ g_6 ≠ 0 ∧ inR .u64 (Int.tdiv x178 g_6) ∧ ∃ x179 : Int, (∀ w' : World, S175 w' → w'.cell? (y_3.add 2) = some (Value.int .u64 x179)) ∧ r166 ≠ 0 ∧ inR .u64 (Int.tdiv x179 r166) ∧ ratio_product_sh (Int.tdiv x178 g_6) (Int.tdiv x179 r166) (fun (r181_0 : Int) (r181_1 : Int) (w180 : World) => S175 w180 ∧ ratio_rat_sh sign_10 x176 x177 r181_0 r181_1 (fun (r183_0 : Int) (r183_1 : Int) (r184 : Bool) (w182 : World) => S175 w182 ∧ wrOk w182 t_4 ∧ 
  (let w185 : World := w182.setCell t_4 (Value.int .i64 r183_0)
  wrOk w185 (t_4.add 1) ∧ 
  (let w186 : World := w185.setCell (t_4.add 1) (Value.int .i64 r183_1)
  ∃ x187 : Int, w186.cell? t_4 = some (Value.int .i64 x187) ∧ ∃ x188 : Int, w186.cell? (t_4.add 1) = some (Value.int .i64 x188) ∧ K x187 x188 r184 w186))) w180) w174))) w165) w164))) w)
structure ratio_sum_k1 (x_2 : Addr) (y_3 : Addr) (t_4 : Addr) (g_6 : Int) (n_9 : Addr) (sign_10 : Bool)  (K : Int → Int → Bool → World → Prop) (w : World) : Prop where
  out : ratio_sum_k1d x_2 y_3 t_4 g_6 n_9 sign_10 K w

def ratio_sum_k0d (x_2 : Addr) (y_3 : Addr) (t_4 : Addr) (g_6 : Int) (a_7 : Addr) (b_8 : Addr)  (K : Int → Int → Bool → World → Prop) (w : World) : Prop :=
  let w112 : World := w.alloc (Obj.cells #[(Value.int .u64 (0 : Int)), (Value.int .u64 (0 : Int))] 67)
  ∃ x113 : Bool, w112.cell? x_2 = some (Value.bool x113) ∧ ∃ x114 : Bool, w112.cell? x_2 = some (Value.bool x114) ∧ ∃ x115 : Bool, w112.cell? y_3 = some (Value.bool x115) ∧ cnd (x114 == x115)
    (∃ x116 : Int, w112.cell? a_7 = some (Value.int .u64 x116) ∧ ∃ x117 : Int, w112.cell? (a_7.add 1) = some (Value.int .u64 x117) ∧ ∃ x118 : Int, w112.cell? b_8 = some (Value.int .u64 x118) ∧ ∃ x119 : Int, w112.cell? (b_8.add 1) = some (Value.int .u64 x119) ∧ ratio_wide_add_sh x116 x117 x118 x119 (fun (r121_0 : Int) (r121_1 : Int) (w120 : World) => wrOk w120 (Addr.mk w.heap.size 0 none) ∧ 
  (let w122 : World := w120.setCell (Addr.mk w.heap.size 0 none) (Value.int .u64 r121_0)
  wrOk w122 (Addr.mk w.heap.size 1 none) ∧ 
  (let w123 : World := w122.setCell (Addr.mk w.heap.size 1 none) (Value.int .u64 r121_1)
  ratio_sum_k1 x_2 y_3 t_4 g_6 (Addr.mk w.heap.size 0 none) x113 K w123))) w112)
    (∃ x124 : Int, w112.cell? a_7 = some (Value.int .u64 x124) ∧ ∃ x125 : Int, w112.cell? (a_7.add 1) = some (Value.int .u64 x125) ∧ ∃ x126 : Int, w112.cell? b_8 = some (Value.int .u64 x126) ∧ ∃ x127 : Int, w112.cell? (b_8.add 1) = some (Value.int .u64 x127) ∧ ratio_compare_sh x124 x125 x126 x127 (fun (r129 : Int) (w128 : World) => cnd (decide (r129 ≥ (0 : Int)))
    (∃ x130 : Int, w128.cell? a_7 = some (Value.int .u64 x130) ∧ ∃ x131 : Int, w128.cell? (a_7.add 1) = some (Value.int .u64 x131) ∧ ∃ x132 : Int, w128.cell? b_8 = some (Value.int .u64 x132) ∧ ∃ x133 : Int, w128.cell? (b_8.add 1) = some (Value.int .u64 x133) ∧ ratio_wide_sub_sh x130 x131 x132 x133 (fun (r135_0 : Int) (r135_1 : Int) (w134 : World) => wrOk w134 (Addr.mk w.heap.size 0 none) ∧ 
  (let w136 : World := w134.setCell (Addr.mk w.heap.size 0 none) (Value.int .u64 r135_0)
  wrOk w136 (Addr.mk w.heap.size 1 none) ∧ 
  (let w137 : World := w136.setCell (Addr.mk w.heap.size 1 none) (Value.int .u64 r135_1)
  ratio_sum_k1 x_2 y_3 t_4 g_6 (Addr.mk w.heap.size 0 none) x113 K w137))) w128)
    (let w138 : World := w128.drew
  ∃ S139 : World → Prop, S139 w138 ∧ ∃ x140 : Int, (∀ w' : World, S139 w' → w'.cell? b_8 = some (Value.int .u64 x140)) ∧ ∃ x141 : Int, (∀ w' : World, S139 w' → w'.cell? (b_8.add 1) = some (Value.int .u64 x141)) ∧ ∃ x142 : Int, (∀ w' : World, S139 w' → w'.cell? a_7 = some (Value.int .u64 x142)) ∧ ∃ x143 : Int, (∀ w' : World, S139 w' → w'.cell? (a_7.add 1) = some (Value.int .u64 x143)) ∧ ∃ x144 : Bool, (∀ w' : World, S139 w' → w'.cell? y_3 = some (Value.bool x144)) ∧ ratio_wide_sub_sh x140 x141 x142 x143 (fun (r146_0 : Int) (r146_1 : Int) (w145 : World) => S139 w145 ∧ wrOk w145 (Addr.mk w.heap.size 0 none) ∧ 
  (let w147 : World := w145.setCell (Addr.mk w.heap.size 0 none) (Value.int .u64 r146_0)
  wrOk w147 (Addr.mk w.heap.size 1 none) ∧ 
  (let w148 : World := w147.setCell (Addr.mk w.heap.size 1 none) (Value.int .u64 r146_1)
  S139 w148 ∧ ratio_sum_k1 x_2 y_3 t_4 g_6 (Addr.mk w.heap.size 0 none) x144 K w148))) w138)) w112)
structure ratio_sum_k0 (x_2 : Addr) (y_3 : Addr) (t_4 : Addr) (g_6 : Int) (a_7 : Addr) (b_8 : Addr)  (K : Int → Int → Bool → World → Prop) (w : World) : Prop where
  out : ratio_sum_k0d x_2 y_3 t_4 g_6 a_7 b_8 K w

def ratio_sum_sd (x_0_0 : Bool) (x_0_1 : Int) (x_0_2 : Int) (y_1_0 : Bool) (y_1_1 : Int) (y_1_2 : Int) (K : Int → Int → Bool → World → Prop) (w : World) : Prop :=
  let w1 : World := w.alloc (Obj.cells #[(Value.bool x_0_0), (Value.int .u64 x_0_1), (Value.int .u64 x_0_2)] 61)
  let w2 : World := w1.alloc (Obj.cells #[(Value.bool y_1_0), (Value.int .u64 y_1_1), (Value.int .u64 y_1_2)] 61)
  let w3 : World := w2.alloc (Obj.cells #[(Value.int .i64 (0 : Int)), (Value.int .i64 (0 : Int))] 26)
  ∃ x4 : Int, w3.cell? (Addr.mk w.heap.size 2 none) = some (Value.int .u64 x4) ∧ ∃ x5 : Int, w3.cell? (Addr.mk w1.heap.size 2 none) = some (Value.int .u64 x5) ∧ ratio_gcd_sh x4 x5 (fun (r7 : Int) (w6 : World) => let w8 : World := w6.drew
  ∃ S9 : World → Prop, S9 w8 ∧ ∃ x10 : Int, (∀ w' : World, S9 w' → w'.cell? (Addr.mk w.heap.size 1 none) = some (Value.int .u64 x10)) ∧ ∃ x11 : Int, (∀ w' : World, S9 w' → w'.cell? (Addr.mk w1.heap.size 2 none) = some (Value.int .u64 x11)) ∧ r7 ≠ 0 ∧ inR .u64 (Int.tdiv x11 r7) ∧ ∃ x12 : Int, (∀ w' : World, S9 w' → w'.cell? (Addr.mk w1.heap.size 1 none) = some (Value.int .u64 x12)) ∧ ∃ x13 : Int, (∀ w' : World, S9 w' → w'.cell? (Addr.mk w.heap.size 2 none) = some (Value.int .u64 x13)) ∧ r7 ≠ 0 ∧ inR .u64 (Int.tdiv x13 r7) ∧ (ratio_product_sh x10 (Int.tdiv x11 r7) (fun (r15_0 : Int) (r15_1 : Int) (w14 : World) => S9 w14 ∧ (ratio_product_sh x12 (Int.tdiv x13 r7) (fun (r17_0 : Int) (r17_1 : Int) (w16 : World) => S9 w16 ∧ (let w18 : World := w16.alloc (Obj.cells #[(Value.int .u64 (0 : Int)), (Value.int .u64 (0 : Int))] 67)
  S9 w18 ∧ let w19 : World := w18.alloc (Obj.cells #[(Value.int .u64 (0 : Int)), (Value.int .u64 (0 : Int))] 67)
  S9 w19 ∧ wrOk w19 (Addr.mk w16.heap.size 0 none) ∧ 
  (let w20 : World := w19.setCell (Addr.mk w16.heap.size 0 none) (Value.int .u64 r15_0)
  wrOk w20 (Addr.mk w16.heap.size 1 none) ∧ 
  (let w21 : World := w20.setCell (Addr.mk w16.heap.size 1 none) (Value.int .u64 r15_1)
  S9 w21 ∧ wrOk w21 (Addr.mk w18.heap.size 0 none) ∧ 
  (let w22 : World := w21.setCell (Addr.mk w18.heap.size 0 none) (Value.int .u64 r17_0)
  wrOk w22 (Addr.mk w18.heap.size 1 none) ∧ 
  (let w23 : World := w22.setCell (Addr.mk w18.heap.size 1 none) (Value.int .u64 r17_1)
  ratio_sum_k0 (Addr.mk w.heap.size 0 none) (Addr.mk w1.heap.size 0 none) (Addr.mk w2.heap.size 0 none) r7 (Addr.mk w16.heap.size 0 none) (Addr.mk w18.heap.size 0 none) K w23)))))
    ∧ (let w24 : World := w16.alloc (Obj.cells #[(Value.int .u64 (0 : Int)), (Value.int .u64 (0 : Int))] 67)
  S9 w24 ∧ let w25 : World := w24.alloc (Obj.cells #[(Value.int .u64 (0 : Int)), (Value.int .u64 (0 : Int))] 67)
  S9 w25 ∧ wrOk w25 (Addr.mk w24.heap.size 0 none) ∧ 
  (let w26 : World := w25.setCell (Addr.mk w24.heap.size 0 none) (Value.int .u64 r15_0)
  wrOk w26 (Addr.mk w24.heap.size 1 none) ∧ 
  (let w27 : World := w26.setCell (Addr.mk w24.heap.size 1 none) (Value.int .u64 r15_1)
  S9 w27 ∧ wrOk w27 (Addr.mk w16.heap.size 0 none) ∧ 
  (let w28 : World := w27.setCell (Addr.mk w16.heap.size 0 none) (Value.int .u64 r17_0)
  wrOk w28 (Addr.mk w16.heap.size 1 none) ∧ 
  (let w29 : World := w28.setCell (Addr.mk w16.heap.size 1 none) (Value.int .u64 r17_1)
  ratio_sum_k0 (Addr.mk w.heap.size 0 none) (Addr.mk w1.heap.size 0 none) (Addr.mk w2.heap.size 0 none) r7 (Addr.mk w24.heap.size 0 none) (Addr.mk w16.heap.size 0 none) K w29)))))) w14)
    ∧ (let w30 : World := w14.alloc (Obj.cells #[(Value.int .u64 (0 : Int)), (Value.int .u64 (0 : Int))] 67)
  S9 w30 ∧ (ratio_product_sh x12 (Int.tdiv x13 r7) (fun (r32_0 : Int) (r32_1 : Int) (w31 : World) => S9 w31 ∧ let w33 : World := w31.alloc (Obj.cells #[(Value.int .u64 (0 : Int)), (Value.int .u64 (0 : Int))] 67)
  S9 w33 ∧ wrOk w33 (Addr.mk w14.heap.size 0 none) ∧ 
  (let w34 : World := w33.setCell (Addr.mk w14.heap.size 0 none) (Value.int .u64 r15_0)
  wrOk w34 (Addr.mk w14.heap.size 1 none) ∧ 
  (let w35 : World := w34.setCell (Addr.mk w14.heap.size 1 none) (Value.int .u64 r15_1)
  S9 w35 ∧ wrOk w35 (Addr.mk w31.heap.size 0 none) ∧ 
  (let w36 : World := w35.setCell (Addr.mk w31.heap.size 0 none) (Value.int .u64 r32_0)
  wrOk w36 (Addr.mk w31.heap.size 1 none) ∧ 
  (let w37 : World := w36.setCell (Addr.mk w31.heap.size 1 none) (Value.int .u64 r32_1)
  ratio_sum_k0 (Addr.mk w.heap.size 0 none) (Addr.mk w1.heap.size 0 none) (Addr.mk w2.heap.size 0 none) r7 (Addr.mk w14.heap.size 0 none) (Addr.mk w31.heap.size 0 none) K w37))))) w30)
    ∧ (let w38 : World := w30.alloc (Obj.cells #[(Value.int .u64 (0 : Int)), (Value.int .u64 (0 : Int))] 67)
  S9 w38 ∧ ratio_product_sh x12 (Int.tdiv x13 r7) (fun (r40_0 : Int) (r40_1 : Int) (w39 : World) => S9 w39 ∧ wrOk w39 (Addr.mk w14.heap.size 0 none) ∧ 
  (let w41 : World := w39.setCell (Addr.mk w14.heap.size 0 none) (Value.int .u64 r15_0)
  wrOk w41 (Addr.mk w14.heap.size 1 none) ∧ 
  (let w42 : World := w41.setCell (Addr.mk w14.heap.size 1 none) (Value.int .u64 r15_1)
  S9 w42 ∧ wrOk w42 (Addr.mk w30.heap.size 0 none) ∧ 
  (let w43 : World := w42.setCell (Addr.mk w30.heap.size 0 none) (Value.int .u64 r40_0)
  wrOk w43 (Addr.mk w30.heap.size 1 none) ∧ 
  (let w44 : World := w43.setCell (Addr.mk w30.heap.size 1 none) (Value.int .u64 r40_1)
  ratio_sum_k0 (Addr.mk w.heap.size 0 none) (Addr.mk w1.heap.size 0 none) (Addr.mk w2.heap.size 0 none) r7 (Addr.mk w14.heap.size 0 none) (Addr.mk w30.heap.size 0 none) K w44))))) w38))
    ∧ (let w45 : World := w14.alloc (Obj.cells #[(Value.int .u64 (0 : Int)), (Value.int .u64 (0 : Int))] 67)
  S9 w45 ∧ (ratio_product_sh x12 (Int.tdiv x13 r7) (fun (r47_0 : Int) (r47_1 : Int) (w46 : World) => S9 w46 ∧ let w48 : World := w46.alloc (Obj.cells #[(Value.int .u64 (0 : Int)), (Value.int .u64 (0 : Int))] 67)
  S9 w48 ∧ wrOk w48 (Addr.mk w46.heap.size 0 none) ∧ 
  (let w49 : World := w48.setCell (Addr.mk w46.heap.size 0 none) (Value.int .u64 r15_0)
  wrOk w49 (Addr.mk w46.heap.size 1 none) ∧ 
  (let w50 : World := w49.setCell (Addr.mk w46.heap.size 1 none) (Value.int .u64 r15_1)
  S9 w50 ∧ wrOk w50 (Addr.mk w14.heap.size 0 none) ∧ 
  (let w51 : World := w50.setCell (Addr.mk w14.heap.size 0 none) (Value.int .u64 r47_0)
  wrOk w51 (Addr.mk w14.heap.size 1 none) ∧ 
  (let w52 : World := w51.setCell (Addr.mk w14.heap.size 1 none) (Value.int .u64 r47_1)
  ratio_sum_k0 (Addr.mk w.heap.size 0 none) (Addr.mk w1.heap.size 0 none) (Addr.mk w2.heap.size 0 none) r7 (Addr.mk w46.heap.size 0 none) (Addr.mk w14.heap.size 0 none) K w52))))) w45)
    ∧ (let w53 : World := w45.alloc (Obj.cells #[(Value.int .u64 (0 : Int)), (Value.int .u64 (0 : Int))] 67)
  S9 w53 ∧ ratio_product_sh x12 (Int.tdiv x13 r7) (fun (r55_0 : Int) (r55_1 : Int) (w54 : World) => S9 w54 ∧ wrOk w54 (Addr.mk w45.heap.size 0 none) ∧ 
  (let w56 : World := w54.setCell (Addr.mk w45.heap.size 0 none) (Value.int .u64 r15_0)
  wrOk w56 (Addr.mk w45.heap.size 1 none) ∧ 
  (let w57 : World := w56.setCell (Addr.mk w45.heap.size 1 none) (Value.int .u64 r15_1)
  S9 w57 ∧ wrOk w57 (Addr.mk w14.heap.size 0 none) ∧ 
  (let w58 : World := w57.setCell (Addr.mk w14.heap.size 0 none) (Value.int .u64 r55_0)
  wrOk w58 (Addr.mk w14.heap.size 1 none) ∧ 
  (let w59 : World := w58.setCell (Addr.mk w14.heap.size 1 none) (Value.int .u64 r55_1)
  ratio_sum_k0 (Addr.mk w.heap.size 0 none) (Addr.mk w1.heap.size 0 none) (Addr.mk w2.heap.size 0 none) r7 (Addr.mk w45.heap.size 0 none) (Addr.mk w14.heap.size 0 none) K w59))))) w53))) w8)
    ∧ (let w60 : World := w8.alloc (Obj.cells #[(Value.int .u64 (0 : Int)), (Value.int .u64 (0 : Int))] 67)
  S9 w60 ∧ (ratio_product_sh x10 (Int.tdiv x11 r7) (fun (r62_0 : Int) (r62_1 : Int) (w61 : World) => S9 w61 ∧ (ratio_product_sh x12 (Int.tdiv x13 r7) (fun (r64_0 : Int) (r64_1 : Int) (w63 : World) => S9 w63 ∧ let w65 : World := w63.alloc (Obj.cells #[(Value.int .u64 (0 : Int)), (Value.int .u64 (0 : Int))] 67)
  S9 w65 ∧ wrOk w65 (Addr.mk w8.heap.size 0 none) ∧ 
  (let w66 : World := w65.setCell (Addr.mk w8.heap.size 0 none) (Value.int .u64 r62_0)
  wrOk w66 (Addr.mk w8.heap.size 1 none) ∧ 
  (let w67 : World := w66.setCell (Addr.mk w8.heap.size 1 none) (Value.int .u64 r62_1)
  S9 w67 ∧ wrOk w67 (Addr.mk w63.heap.size 0 none) ∧ 
  (let w68 : World := w67.setCell (Addr.mk w63.heap.size 0 none) (Value.int .u64 r64_0)
  wrOk w68 (Addr.mk w63.heap.size 1 none) ∧ 
  (let w69 : World := w68.setCell (Addr.mk w63.heap.size 1 none) (Value.int .u64 r64_1)
  ratio_sum_k0 (Addr.mk w.heap.size 0 none) (Addr.mk w1.heap.size 0 none) (Addr.mk w2.heap.size 0 none) r7 (Addr.mk w8.heap.size 0 none) (Addr.mk w63.heap.size 0 none) K w69))))) w61)
    ∧ (let w70 : World := w61.alloc (Obj.cells #[(Value.int .u64 (0 : Int)), (Value.int .u64 (0 : Int))] 67)
  S9 w70 ∧ ratio_product_sh x12 (Int.tdiv x13 r7) (fun (r72_0 : Int) (r72_1 : Int) (w71 : World) => S9 w71 ∧ wrOk w71 (Addr.mk w8.heap.size 0 none) ∧ 
  (let w73 : World := w71.setCell (Addr.mk w8.heap.size 0 none) (Value.int .u64 r62_0)
  wrOk w73 (Addr.mk w8.heap.size 1 none) ∧ 
  (let w74 : World := w73.setCell (Addr.mk w8.heap.size 1 none) (Value.int .u64 r62_1)
  S9 w74 ∧ wrOk w74 (Addr.mk w61.heap.size 0 none) ∧ 
  (let w75 : World := w74.setCell (Addr.mk w61.heap.size 0 none) (Value.int .u64 r72_0)
  wrOk w75 (Addr.mk w61.heap.size 1 none) ∧ 
  (let w76 : World := w75.setCell (Addr.mk w61.heap.size 1 none) (Value.int .u64 r72_1)
  ratio_sum_k0 (Addr.mk w.heap.size 0 none) (Addr.mk w1.heap.size 0 none) (Addr.mk w2.heap.size 0 none) r7 (Addr.mk w8.heap.size 0 none) (Addr.mk w61.heap.size 0 none) K w76))))) w70)) w60)
    ∧ (let w77 : World := w60.alloc (Obj.cells #[(Value.int .u64 (0 : Int)), (Value.int .u64 (0 : Int))] 67)
  S9 w77 ∧ ratio_product_sh x10 (Int.tdiv x11 r7) (fun (r79_0 : Int) (r79_1 : Int) (w78 : World) => S9 w78 ∧ ratio_product_sh x12 (Int.tdiv x13 r7) (fun (r81_0 : Int) (r81_1 : Int) (w80 : World) => S9 w80 ∧ wrOk w80 (Addr.mk w8.heap.size 0 none) ∧ 
  (let w82 : World := w80.setCell (Addr.mk w8.heap.size 0 none) (Value.int .u64 r79_0)
  wrOk w82 (Addr.mk w8.heap.size 1 none) ∧ 
  (let w83 : World := w82.setCell (Addr.mk w8.heap.size 1 none) (Value.int .u64 r79_1)
  S9 w83 ∧ wrOk w83 (Addr.mk w60.heap.size 0 none) ∧ 
  (let w84 : World := w83.setCell (Addr.mk w60.heap.size 0 none) (Value.int .u64 r81_0)
  wrOk w84 (Addr.mk w60.heap.size 1 none) ∧ 
  (let w85 : World := w84.setCell (Addr.mk w60.heap.size 1 none) (Value.int .u64 r81_1)
  ratio_sum_k0 (Addr.mk w.heap.size 0 none) (Addr.mk w1.heap.size 0 none) (Addr.mk w2.heap.size 0 none) r7 (Addr.mk w8.heap.size 0 none) (Addr.mk w60.heap.size 0 none) K w85))))) w78) w77))
    ∧ (let w86 : World := w8.alloc (Obj.cells #[(Value.int .u64 (0 : Int)), (Value.int .u64 (0 : Int))] 67)
  S9 w86 ∧ (ratio_product_sh x10 (Int.tdiv x11 r7) (fun (r88_0 : Int) (r88_1 : Int) (w87 : World) => S9 w87 ∧ (ratio_product_sh x12 (Int.tdiv x13 r7) (fun (r90_0 : Int) (r90_1 : Int) (w89 : World) => S9 w89 ∧ let w91 : World := w89.alloc (Obj.cells #[(Value.int .u64 (0 : Int)), (Value.int .u64 (0 : Int))] 67)
  S9 w91 ∧ wrOk w91 (Addr.mk w89.heap.size 0 none) ∧ 
  (let w92 : World := w91.setCell (Addr.mk w89.heap.size 0 none) (Value.int .u64 r88_0)
  wrOk w92 (Addr.mk w89.heap.size 1 none) ∧ 
  (let w93 : World := w92.setCell (Addr.mk w89.heap.size 1 none) (Value.int .u64 r88_1)
  S9 w93 ∧ wrOk w93 (Addr.mk w8.heap.size 0 none) ∧ 
  (let w94 : World := w93.setCell (Addr.mk w8.heap.size 0 none) (Value.int .u64 r90_0)
  wrOk w94 (Addr.mk w8.heap.size 1 none) ∧ 
  (let w95 : World := w94.setCell (Addr.mk w8.heap.size 1 none) (Value.int .u64 r90_1)
  ratio_sum_k0 (Addr.mk w.heap.size 0 none) (Addr.mk w1.heap.size 0 none) (Addr.mk w2.heap.size 0 none) r7 (Addr.mk w89.heap.size 0 none) (Addr.mk w8.heap.size 0 none) K w95))))) w87)
    ∧ (let w96 : World := w87.alloc (Obj.cells #[(Value.int .u64 (0 : Int)), (Value.int .u64 (0 : Int))] 67)
  S9 w96 ∧ ratio_product_sh x12 (Int.tdiv x13 r7) (fun (r98_0 : Int) (r98_1 : Int) (w97 : World) => S9 w97 ∧ wrOk w97 (Addr.mk w87.heap.size 0 none) ∧ 
  (let w99 : World := w97.setCell (Addr.mk w87.heap.size 0 none) (Value.int .u64 r88_0)
  wrOk w99 (Addr.mk w87.heap.size 1 none) ∧ 
  (let w100 : World := w99.setCell (Addr.mk w87.heap.size 1 none) (Value.int .u64 r88_1)
  S9 w100 ∧ wrOk w100 (Addr.mk w8.heap.size 0 none) ∧ 
  (let w101 : World := w100.setCell (Addr.mk w8.heap.size 0 none) (Value.int .u64 r98_0)
  wrOk w101 (Addr.mk w8.heap.size 1 none) ∧ 
  (let w102 : World := w101.setCell (Addr.mk w8.heap.size 1 none) (Value.int .u64 r98_1)
  ratio_sum_k0 (Addr.mk w.heap.size 0 none) (Addr.mk w1.heap.size 0 none) (Addr.mk w2.heap.size 0 none) r7 (Addr.mk w87.heap.size 0 none) (Addr.mk w8.heap.size 0 none) K w102))))) w96)) w86)
    ∧ (let w103 : World := w86.alloc (Obj.cells #[(Value.int .u64 (0 : Int)), (Value.int .u64 (0 : Int))] 67)
  S9 w103 ∧ ratio_product_sh x10 (Int.tdiv x11 r7) (fun (r105_0 : Int) (r105_1 : Int) (w104 : World) => S9 w104 ∧ ratio_product_sh x12 (Int.tdiv x13 r7) (fun (r107_0 : Int) (r107_1 : Int) (w106 : World) => S9 w106 ∧ wrOk w106 (Addr.mk w86.heap.size 0 none) ∧ 
  (let w108 : World := w106.setCell (Addr.mk w86.heap.size 0 none) (Value.int .u64 r105_0)
  wrOk w108 (Addr.mk w86.heap.size 1 none) ∧ 
  (let w109 : World := w108.setCell (Addr.mk w86.heap.size 1 none) (Value.int .u64 r105_1)
  S9 w109 ∧ wrOk w109 (Addr.mk w8.heap.size 0 none) ∧ 
  (let w110 : World := w109.setCell (Addr.mk w8.heap.size 0 none) (Value.int .u64 r107_0)
  wrOk w110 (Addr.mk w8.heap.size 1 none) ∧ 
  (let w111 : World := w110.setCell (Addr.mk w8.heap.size 1 none) (Value.int .u64 r107_1)
  ratio_sum_k0 (Addr.mk w.heap.size 0 none) (Addr.mk w1.heap.size 0 none) (Addr.mk w2.heap.size 0 none) r7 (Addr.mk w86.heap.size 0 none) (Addr.mk w8.heap.size 0 none) K w111))))) w104) w103))) w3

structure ratio_sum_sh (x_0_0 : Bool) (x_0_1 : Int) (x_0_2 : Int) (y_1_0 : Bool) (y_1_1 : Int) (y_1_2 : Int) (K : Int → Int → Bool → World → Prop) (w : World) : Prop where
  out : ratio_sum_sd x_0_0 x_0_1 x_0_2 y_1_0 y_1_1 y_1_2 K w

def ratio_sum_P0 (Kv : VW) (ρ : Rho) (vs : List Value) (w : World) : Prop :=
  match ρ, vs with
  | _, [.pointer (some x_2), .pointer (some y_3), .pointer (some t_4), .int .u64 g_6, .pointer (some a_7), .pointer (some b_8)] => ratio_sum_k0 x_2 y_3 t_4 g_6 a_7 b_8  (fun (r0_0 : Int) (r0_1 : Int) (r1 : Bool) (w' : World) => Kv (Value.tuple #[(Value.agg #[(Value.int .i64 r0_0), (Value.int .i64 r0_1)]), (Value.bool r1)]) w') w
  | _, _ => False

def ratio_sum_P1 (Kv : VW) (ρ : Rho) (vs : List Value) (w : World) : Prop :=
  match ρ, vs with
  | _, [.pointer (some x_2), .pointer (some y_3), .pointer (some t_4), .int .u64 g_6, .pointer (some n_9), .bool sign_10] => ratio_sum_k1 x_2 y_3 t_4 g_6 n_9 sign_10  (fun (r0_0 : Int) (r0_1 : Int) (r1 : Bool) (w' : World) => Kv (Value.tuple #[(Value.agg #[(Value.int .i64 r0_0), (Value.int .i64 r0_1)]), (Value.bool r1)]) w') w
  | _, _ => False

noncomputable def ratio_sum_S : Pw.Spec := fun vs w Kv =>
  match vs with
  | [.agg ⟨[.bool x_0_0, .int .u64 x_0_1, .int .u64 x_0_2]⟩, .agg ⟨[.bool y_1_0, .int .u64 y_1_1, .int .u64 y_1_2]⟩] => ratio_sum_sh x_0_0 x_0_1 x_0_2 y_1_0 y_1_1 y_1_2 (fun (r0_0 : Int) (r0_1 : Int) (r1 : Bool) (w' : World) => Kv (Value.tuple #[(Value.agg #[(Value.int .i64 r0_0), (Value.int .i64 r0_1)]), (Value.bool r1)]) w') w
  | _ => False

noncomputable def ratio_sum_E : Pw.Env := [(29, ratio_zero_S), (49, ratio_compare_S), (50, ratio_product_S), (55, ratio_gcd_S), (67, ratio_rat_S), (68, ratio_wide_add_S), (69, ratio_wide_sub_S), (70, ratio_wide_over_S)]

noncomputable def ratio_sum_C : Code := (Tryz.f43.body).getD .skip

noncomputable def ratio_sum_A (Kv : VW) : Pw.A :=
  (A.seq (A.reg (RA.run (RA.run (RA.run (RA.run RA.done)))))
   (A.seq (A.reg (RA.run (RA.run (RA.run (RA.run (RA.run (RA.run RA.done)))))))
   (A.seq (A.drw (DA.pur 0 (DA.pur 1 (DA.pur 2 (DA.pur 3 (DA.pur 4 (DA.pur 5 (DA.pur 7 (DA.pur 8 (DA.pur 9 (DA.pur 10 (DA.pur 11 (DA.pur 12 (DA.thr 6 (DA.thr 13 (DA.two 14 (DA.eff 15 (DA.eff 16 (DA.eff 17 DA.done))) 15 (DA.eff 14 (DA.eff 16 (DA.eff 17 DA.done)))) 14 (DA.two 13 (DA.eff 15 (DA.eff 16 (DA.eff 17 DA.done))) 15 (DA.eff 13 (DA.eff 16 (DA.eff 17 DA.done)))) 15 (DA.two 13 (DA.eff 14 (DA.eff 16 (DA.eff 17 DA.done))) 14 (DA.eff 13 (DA.eff 16 (DA.eff 17 DA.done))))) 14 (DA.two 6 (DA.two 13 (DA.eff 15 (DA.eff 16 (DA.eff 17 DA.done))) 15 (DA.eff 13 (DA.eff 16 (DA.eff 17 DA.done)))) 15 (DA.eff 6 (DA.eff 13 (DA.eff 16 (DA.eff 17 DA.done))))) 15 (DA.two 6 (DA.two 13 (DA.eff 14 (DA.eff 16 (DA.eff 17 DA.done))) 14 (DA.eff 13 (DA.eff 16 (DA.eff 17 DA.done)))) 14 (DA.eff 6 (DA.eff 13 (DA.eff 16 (DA.eff 17 DA.done)))))))))))))))))))
   (A.cut [2, 3, 4, 6, 7, 8] (ratio_sum_P0 Kv) (A.seq (A.reg (RA.run RA.done))
   (A.seq (A.reg (RA.run (RA.run (RA.run RA.done))))
   (A.seq (A.blk (A.seq (A.reg (RA.run (RA.run (RA.run (RA.run (RA.run (RA.run RA.done)))))))
   (A.cond (A.reg (RA.run (RA.run (RA.run (RA.run RA.done)))))
   (A.seq (A.reg (RA.run (RA.run (RA.run (RA.run (RA.run RA.done))))))
   (A.cond (A.reg (RA.run (RA.run (RA.run (RA.run RA.done)))))
   (A.drw (DA.pur 0 (DA.pur 1 (DA.pur 3 (DA.pur 4 (DA.eff 2 (DA.eff 5 (DA.pur 6 DA.done)))))))))))))
   (A.cut [2, 3, 4, 6, 9, 10] (ratio_sum_P1 Kv) (A.seq (A.seq (A.reg (RA.run (RA.run (RA.run RA.done))))
   (A.cond (A.seq (A.reg (RA.run (RA.run (RA.run RA.done))))
   A.leaf)
   A.leaf))
   (A.seq (A.reg (RA.run (RA.run (RA.run (RA.run (RA.run (RA.run (RA.run (RA.run (RA.run RA.done))))))))))
   (A.seq (A.reg (RA.run (RA.run (RA.run (RA.run RA.done)))))
   (A.seq (A.reg (RA.run (RA.run (RA.run (RA.run (RA.run (RA.run (RA.run RA.done))))))))
   (A.seq (A.drw (DA.pur 0 (DA.pur 1 (DA.pur 2 (DA.pur 3 (DA.pur 4 (DA.pur 5 (DA.pur 6 (DA.pur 7 (DA.pur 8 (DA.pur 9 (DA.eff 10 (DA.eff 11 (DA.pur 12 (DA.pur 13 (DA.eff 14 (DA.pur 15 DA.done)))))))))))))))))
   A.leaf)))))))))))))

noncomputable def ratio_sum_O (Kv : VW) : List Ob := (obs Tryz.prog ratio_sum_E 90 (ratio_sum_A Kv) ratio_sum_C (fun _ => retQ Tryz.prog Tryz.f43.results Kv))

theorem ratio_sum_e (Kv : VW) (x_0_0 : Bool) (x_0_1 : Int) (x_0_2 : Int) (y_1_0 : Bool) (y_1_1 : Int) (y_1_2 : Int) (w : World) : ratio_sum_sd x_0_0 x_0_1 x_0_2 y_1_0 y_1_1 y_1_2 (fun (r0_0 : Int) (r0_1 : Int) (r1 : Bool) (w' : World) => Kv (Value.tuple #[(Value.agg #[(Value.int .i64 r0_0), (Value.int .i64 r0_1)]), (Value.bool r1)]) w') w = W Tryz.prog ratio_sum_E 90 (ratio_sum_A Kv) ratio_sum_C [] (retQ Tryz.prog Tryz.f43.results Kv) [] (startS [(Value.agg #[(Value.bool x_0_0), (Value.int .u64 x_0_1), (Value.int .u64 x_0_2)]), (Value.agg #[(Value.bool y_1_0), (Value.int .u64 y_1_1), (Value.int .u64 y_1_2)])]) w := by kernel_rfl

theorem ratio_sum_e0 (Kv : VW) (ρ : Rho) (x_2 : Addr) (y_3 : Addr) (t_4 : Addr) (g_6 : Int) (a_7 : Addr) (b_8 : Addr) (w : World) : ratio_sum_k0d x_2 y_3 t_4 g_6 a_7 b_8  (fun (r0_0 : Int) (r0_1 : Int) (r1 : Bool) (w' : World) => Kv (Value.tuple #[(Value.agg #[(Value.int .i64 r0_0), (Value.int .i64 r0_1)]), (Value.bool r1)]) w') w = goalAt Tryz.prog ratio_sum_E 90 (ratio_sum_O Kv) 0 (ρ) [(Value.pointer (some x_2)), (Value.pointer (some y_3)), (Value.pointer (some t_4)), (Value.int .u64 g_6), (Value.pointer (some a_7)), (Value.pointer (some b_8))] w := by kernel_rfl

theorem ratio_sum_q0 (Kv : VW) (ρ : Rho) (vs : List Value) (w : World) : labAt (ratio_sum_O Kv) 0 ρ vs w = ratio_sum_P0 Kv ρ vs w := by kernel_rfl

theorem ratio_sum_h0 (Kv : VW) : holdsAt Tryz.prog ratio_sum_E 90 (ratio_sum_O Kv) 0 := holdsAt_cut (.inl (by kernel_rfl)) (fun ρ vs w h => by
  rw [ratio_sum_q0] at h
  unfold ratio_sum_P0 at h
  split at h
  · rw [← ratio_sum_e0]; exact h.out
  · exact h.elim)

theorem ratio_sum_e1 (Kv : VW) (ρ : Rho) (x_2 : Addr) (y_3 : Addr) (t_4 : Addr) (g_6 : Int) (n_9 : Addr) (sign_10 : Bool) (w : World) : ratio_sum_k1d x_2 y_3 t_4 g_6 n_9 sign_10  (fun (r0_0 : Int) (r0_1 : Int) (r1 : Bool) (w' : World) => Kv (Value.tuple #[(Value.agg #[(Value.int .i64 r0_0), (Value.int .i64 r0_1)]), (Value.bool r1)]) w') w = goalAt Tryz.prog ratio_sum_E 90 (ratio_sum_O Kv) 1 (ρ) [(Value.pointer (some x_2)), (Value.pointer (some y_3)), (Value.pointer (some t_4)), (Value.int .u64 g_6), (Value.pointer (some n_9)), (Value.bool sign_10)] w := by kernel_rfl

theorem ratio_sum_q1 (Kv : VW) (ρ : Rho) (vs : List Value) (w : World) : labAt (ratio_sum_O Kv) 1 ρ vs w = ratio_sum_P1 Kv ρ vs w := by kernel_rfl

theorem ratio_sum_h1 (Kv : VW) : holdsAt Tryz.prog ratio_sum_E 90 (ratio_sum_O Kv) 1 := holdsAt_cut (.inl (by kernel_rfl)) (fun ρ vs w h => by
  rw [ratio_sum_q1] at h
  unfold ratio_sum_P1 at h
  split at h
  · rw [← ratio_sum_e1]; exact h.out
  · exact h.elim)

theorem ratio_sum_n (Kv : VW) : obAt (ratio_sum_O Kv) 2 = none := by kernel_rfl

theorem ratio_sum_h (Kv : VW) : ∀ k, holdsAt Tryz.prog ratio_sum_E 90 (ratio_sum_O Kv) k := fun k => match k with
  | 0 => ratio_sum_h0 Kv
  | 1 => ratio_sum_h1 Kv
  | _k + 2 => holdsAt_ge (ratio_sum_n Kv) (Nat.le_add_left _ _)

theorem ratio_sum_ok : Sound Tryz.prog 43 ratio_sum_S := ⟨Tryz.call43, fun vs w Kv h => by
  unfold ratio_sum_S at h
  split at h
  · have h := h.out
    rw [ratio_sum_e] at h
    exact calls_sound (Γ := ratio_sum_E) progMixed ⟨.inl ratio_zero_ok, .inl ratio_compare_ok, .inl ratio_product_ok, .inl ratio_gcd_ok, .inl ratio_rat_ok, .inl ratio_wide_add_ok, .inl ratio_wide_sub_ok, .inl ratio_wide_over_ok, trivial⟩ Tryz.func43 (code := ratio_sum_C) (by kernel_rfl) (ratio_sum_A Kv) Kv (holds_all (ratio_sum_h Kv)) (Nat.le_of_ble_eq_true (by kernel_rfl)) h
  · exact h.elim⟩

/-! ratio_Add -/
def ratio_Add_sd (a_0_0 : Int) (a_0_1 : Int) (b_1_0 : Int) (b_1_1 : Int) (K : Int → Int → Bool → World → Prop) (w : World) : Prop :=
  let w1 : World := w.alloc (Obj.cells #[(Value.int .i64 a_0_0), (Value.int .i64 a_0_1)] 26)
  let w2 : World := w1.alloc (Obj.cells #[(Value.int .i64 b_1_0), (Value.int .i64 b_1_1)] 26)
  let w3 : World := w2.alloc (Obj.cells #[(Value.int .i64 (0 : Int)), (Value.int .i64 (0 : Int))] 26)
  ∃ x4 : Int, w3.cell? (Addr.mk w.heap.size 0 none) = some (Value.int .i64 x4) ∧ ∃ x5 : Int, w3.cell? (Addr.mk w.heap.size 1 none) = some (Value.int .i64 x5) ∧ ∃ x6 : Int, w3.cell? (Addr.mk w1.heap.size 0 none) = some (Value.int .i64 x6) ∧ ∃ x7 : Int, w3.cell? (Addr.mk w1.heap.size 1 none) = some (Value.int .i64 x7) ∧ ratio_checked_sh x4 x5 x6 x7 (Value.func (.func 43) #[] #[]) (fun (r9_0 : Int) (r9_1 : Int) (r10 : Bool) (w8 : World) => wrOk w8 (Addr.mk w2.heap.size 0 none) ∧ 
  (let w11 : World := w8.setCell (Addr.mk w2.heap.size 0 none) (Value.int .i64 r9_0)
  wrOk w11 (Addr.mk w2.heap.size 1 none) ∧ 
  (let w12 : World := w11.setCell (Addr.mk w2.heap.size 1 none) (Value.int .i64 r9_1)
  ∃ x13 : Int, w12.cell? (Addr.mk w2.heap.size 0 none) = some (Value.int .i64 x13) ∧ ∃ x14 : Int, w12.cell? (Addr.mk w2.heap.size 1 none) = some (Value.int .i64 x14) ∧ K x13 x14 r10 w12))) w3

structure ratio_Add_sh (a_0_0 : Int) (a_0_1 : Int) (b_1_0 : Int) (b_1_1 : Int) (K : Int → Int → Bool → World → Prop) (w : World) : Prop where
  out : ratio_Add_sd a_0_0 a_0_1 b_1_0 b_1_1 K w

noncomputable def ratio_Add_S : Pw.Spec := fun vs w Kv =>
  match vs with
  | [.agg ⟨[.int .i64 a_0_0, .int .i64 a_0_1]⟩, .agg ⟨[.int .i64 b_1_0, .int .i64 b_1_1]⟩] => ratio_Add_sh a_0_0 a_0_1 b_1_0 b_1_1 (fun (r0_0 : Int) (r0_1 : Int) (r1 : Bool) (w' : World) => Kv (Value.tuple #[(Value.agg #[(Value.int .i64 r0_0), (Value.int .i64 r0_1)]), (Value.bool r1)]) w') w
  | _ => False

noncomputable def ratio_Add_E : Pw.Env := [(42, ratio_checked_S)]

noncomputable def ratio_Add_C : Code := (Tryz.f15.body).getD .skip

noncomputable def ratio_Add_A (_Kv : VW) : Pw.A :=
  (A.seq (A.reg (RA.run (RA.run (RA.run (RA.run RA.done)))))
   (A.seq (A.reg (RA.run (RA.run (RA.run (RA.run (RA.run (RA.run (RA.run RA.done))))))))
   A.leaf))

noncomputable def ratio_Add_O (Kv : VW) : List Ob := (obs Tryz.prog ratio_Add_E 11 (ratio_Add_A Kv) ratio_Add_C (fun _ => retQ Tryz.prog Tryz.f15.results Kv))

theorem ratio_Add_e (Kv : VW) (a_0_0 : Int) (a_0_1 : Int) (b_1_0 : Int) (b_1_1 : Int) (w : World) : ratio_Add_sd a_0_0 a_0_1 b_1_0 b_1_1 (fun (r0_0 : Int) (r0_1 : Int) (r1 : Bool) (w' : World) => Kv (Value.tuple #[(Value.agg #[(Value.int .i64 r0_0), (Value.int .i64 r0_1)]), (Value.bool r1)]) w') w = W Tryz.prog ratio_Add_E 11 (ratio_Add_A Kv) ratio_Add_C [] (retQ Tryz.prog Tryz.f15.results Kv) [] (startS [(Value.agg #[(Value.int .i64 a_0_0), (Value.int .i64 a_0_1)]), (Value.agg #[(Value.int .i64 b_1_0), (Value.int .i64 b_1_1)])]) w := by kernel_rfl

theorem ratio_Add_n (Kv : VW) : obAt (ratio_Add_O Kv) 0 = none := by kernel_rfl

theorem ratio_Add_h (Kv : VW) : ∀ k, holdsAt Tryz.prog ratio_Add_E 11 (ratio_Add_O Kv) k := fun _ => holdsAt_ge (ratio_Add_n Kv) (Nat.zero_le _)

theorem ratio_Add_ok : Sound Tryz.prog 15 ratio_Add_S := ⟨Tryz.call15, fun vs w Kv h => by
  unfold ratio_Add_S at h
  split at h
  · have h := h.out
    rw [ratio_Add_e] at h
    exact calls_sound (Γ := ratio_Add_E) progMixed ⟨.inl ratio_checked_ok, trivial⟩ Tryz.func15 (code := ratio_Add_C) (by kernel_rfl) (ratio_Add_A Kv) Kv (holds_all (ratio_Add_h Kv)) (Nat.le_of_ble_eq_true (by kernel_rfl)) h
  · exact h.elim⟩

/-! ratio_Of -/
def ratio_Of_sd (n_0 : Int) (K : Int → Int → World → Prop) (w : World) : Prop :=
  let w1 : World := w.alloc (Obj.cells #[(Value.int .i64 (0 : Int)), (Value.int .i64 (0 : Int))] 26)
  wrOk w1 (Addr.mk w.heap.size 0 none) ∧ 
  (let w2 : World := w1.setCell (Addr.mk w.heap.size 0 none) (Value.int .i64 n_0)
  wrOk w2 (Addr.mk w.heap.size 1 none) ∧ 
  (let w3 : World := w2.setCell (Addr.mk w.heap.size 1 none) (Value.int .i64 (1 : Int))
  ∃ x4 : Int, w3.cell? (Addr.mk w.heap.size 0 none) = some (Value.int .i64 x4) ∧ ∃ x5 : Int, w3.cell? (Addr.mk w.heap.size 1 none) = some (Value.int .i64 x5) ∧ K x4 x5 w3))

structure ratio_Of_sh (n_0 : Int) (K : Int → Int → World → Prop) (w : World) : Prop where
  out : ratio_Of_sd n_0 K w

noncomputable def ratio_Of_S : Pw.Spec := fun vs w Kv =>
  match vs with
  | [.int .i64 n_0] => ratio_Of_sh n_0 (fun (r0_0 : Int) (r0_1 : Int) (w' : World) => Kv (Value.agg #[(Value.int .i64 r0_0), (Value.int .i64 r0_1)]) w') w
  | _ => False

noncomputable def ratio_Of_E : Pw.Env := []

noncomputable def ratio_Of_C : Code := (Tryz.f16.body).getD .skip

noncomputable def ratio_Of_A (_Kv : VW) : Pw.A :=
  (A.seq (A.reg (RA.run RA.done))
   (A.seq (A.reg (RA.run (RA.run (RA.run RA.done))))
   A.leaf))

noncomputable def ratio_Of_O (Kv : VW) : List Ob := (obs Tryz.prog ratio_Of_E 5 (ratio_Of_A Kv) ratio_Of_C (fun _ => retQ Tryz.prog Tryz.f16.results Kv))

theorem ratio_Of_e (Kv : VW) (n_0 : Int) (w : World) : ratio_Of_sd n_0 (fun (r0_0 : Int) (r0_1 : Int) (w' : World) => Kv (Value.agg #[(Value.int .i64 r0_0), (Value.int .i64 r0_1)]) w') w = W Tryz.prog ratio_Of_E 5 (ratio_Of_A Kv) ratio_Of_C [] (retQ Tryz.prog Tryz.f16.results Kv) [] (startS [(Value.int .i64 n_0)]) w := by kernel_rfl

theorem ratio_Of_n (Kv : VW) : obAt (ratio_Of_O Kv) 0 = none := by kernel_rfl

theorem ratio_Of_h (Kv : VW) : ∀ k, holdsAt Tryz.prog ratio_Of_E 5 (ratio_Of_O Kv) k := fun _ => holdsAt_ge (ratio_Of_n Kv) (Nat.zero_le _)

theorem ratio_Of_ok : Sound Tryz.prog 16 ratio_Of_S := ⟨Tryz.call16, fun vs w Kv h => by
  unfold ratio_Of_S at h
  split at h
  · have h := h.out
    rw [ratio_Of_e] at h
    exact calls_sound (Γ := ratio_Of_E) progMixed trivial Tryz.func16 (code := ratio_Of_C) (by kernel_rfl) (ratio_Of_A Kv) Kv (holds_all (ratio_Of_h Kv)) (Nat.le_of_ble_eq_true (by kernel_rfl)) h
  · exact h.elim⟩

/-! ratio_times -/
def ratio_times_k0d (t_4 : Addr)  (K : Int → Int → Bool → World → Prop) (w : World) : Prop :=
  ratio_zero_sh (fun (r7_0 : Int) (r7_1 : Int) (w6 : World) => wrOk w6 t_4 ∧ 
  (let w8 : World := w6.setCell t_4 (Value.int .i64 r7_0)
  wrOk w8 (t_4.add 1) ∧ 
  (let w9 : World := w8.setCell (t_4.add 1) (Value.int .i64 r7_1)
  ∃ x10 : Int, w9.cell? t_4 = some (Value.int .i64 x10) ∧ ∃ x11 : Int, w9.cell? (t_4.add 1) = some (Value.int .i64 x11) ∧ K x10 x11 true w9))) w
structure ratio_times_k0 (t_4 : Addr)  (K : Int → Int → Bool → World → Prop) (w : World) : Prop where
  out : ratio_times_k0d t_4 K w

def ratio_times_sd (x_0_0 : Bool) (x_0_1 : Int) (x_0_2 : Int) (y_1_0 : Bool) (y_1_1 : Int) (y_1_2 : Int) (K : Int → Int → Bool → World → Prop) (w : World) : Prop :=
  let w1 : World := w.alloc (Obj.cells #[(Value.bool x_0_0), (Value.int .u64 x_0_1), (Value.int .u64 x_0_2)] 61)
  let w2 : World := w1.alloc (Obj.cells #[(Value.bool y_1_0), (Value.int .u64 y_1_1), (Value.int .u64 y_1_2)] 61)
  let w3 : World := w2.alloc (Obj.cells #[(Value.int .i64 (0 : Int)), (Value.int .i64 (0 : Int))] 26)
  ∃ x4 : Int, w3.cell? (Addr.mk w.heap.size 1 none) = some (Value.int .u64 x4) ∧ cnd (x4 == (0 : Int))
    (ratio_times_k0 (Addr.mk w2.heap.size 0 none) K w3)
    (∃ x5 : Int, w3.cell? (Addr.mk w1.heap.size 1 none) = some (Value.int .u64 x5) ∧ cnd (x5 == (0 : Int))
    (ratio_times_k0 (Addr.mk w2.heap.size 0 none) K w3)
    (let w12 : World := w3.drew
  ∃ S13 : World → Prop, S13 w12 ∧ ∃ x14 : Int, (∀ w' : World, S13 w' → w'.cell? (Addr.mk w.heap.size 1 none) = some (Value.int .u64 x14)) ∧ ∃ x15 : Int, (∀ w' : World, S13 w' → w'.cell? (Addr.mk w1.heap.size 2 none) = some (Value.int .u64 x15)) ∧ ∃ x16 : Int, (∀ w' : World, S13 w' → w'.cell? (Addr.mk w1.heap.size 1 none) = some (Value.int .u64 x16)) ∧ ∃ x17 : Int, (∀ w' : World, S13 w' → w'.cell? (Addr.mk w.heap.size 2 none) = some (Value.int .u64 x17)) ∧ ratio_gcd_sh x14 x15 (fun (r19 : Int) (w18 : World) => S13 w18 ∧ ratio_gcd_sh x16 x17 (fun (r21 : Int) (w20 : World) => S13 w20 ∧ let w22 : World := w20.drew
  ∃ S23 : World → Prop, S23 w22 ∧ ∃ x24 : Bool, (∀ w' : World, S23 w' → w'.cell? (Addr.mk w.heap.size 0 none) = some (Value.bool x24)) ∧ ∃ x25 : Bool, (∀ w' : World, S23 w' → w'.cell? (Addr.mk w1.heap.size 0 none) = some (Value.bool x25)) ∧ ∃ x26 : Int, (∀ w' : World, S23 w' → w'.cell? (Addr.mk w.heap.size 1 none) = some (Value.int .u64 x26)) ∧ r19 ≠ 0 ∧ inR .u64 (Int.tdiv x26 r19) ∧ ∃ x27 : Int, (∀ w' : World, S23 w' → w'.cell? (Addr.mk w1.heap.size 1 none) = some (Value.int .u64 x27)) ∧ r21 ≠ 0 ∧ inR .u64 (Int.tdiv x27 r21) ∧ ∃ x28 : Int, (∀ w' : World, S23 w' → w'.cell? (Addr.mk w.heap.size 2 none) = some (Value.int .u64 x28)) ∧ r21 ≠ 0 ∧ inR .u64 (Int.tdiv x28 r21) ∧ ∃ x29 : Int, (∀ w' : World, S23 w' → w'.cell? (Addr.mk w1.heap.size 2 none) = some (Value.int .u64 x29)) ∧ r19 ≠ 0 ∧ inR .u64 (Int.tdiv x29 r19) ∧ ratio_product_sh (Int.tdiv x26 r19) (Int.tdiv x27 r21) (fun (r31_0 : Int) (r31_1 : Int) (w30 : World) => S23 w30 ∧ ratio_product_sh (Int.tdiv x28 r21) (Int.tdiv x29 r19) (fun (r33_0 : Int) (r33_1 : Int) (w32 : World) => S23 w32 ∧ ratio_rat_sh (!(x24 == x25)) r31_0 r31_1 r33_0 r33_1 (fun (r35_0 : Int) (r35_1 : Int) (r36 : Bool) (w34 : World) => S23 w34 ∧ wrOk w34 (Addr.mk w2.heap.size 0 none) ∧ 
  (let w37 : World := w34.setCell (Addr.mk w2.heap.size 0 none) (Value.int .i64 r35_0)
  wrOk w37 (Addr.mk w2.heap.size 1 none) ∧ 
  (let w38 : World := w37.setCell (Addr.mk w2.heap.size 1 none) (Value.int .i64 r35_1)
  ∃ x39 : Int, w38.cell? (Addr.mk w2.heap.size 0 none) = some (Value.int .i64 x39) ∧ ∃ x40 : Int, w38.cell? (Addr.mk w2.heap.size 1 none) = some (Value.int .i64 x40) ∧ K x39 x40 r36 w38))) w32) w30) w22) w18) w12))

structure ratio_times_sh (x_0_0 : Bool) (x_0_1 : Int) (x_0_2 : Int) (y_1_0 : Bool) (y_1_1 : Int) (y_1_2 : Int) (K : Int → Int → Bool → World → Prop) (w : World) : Prop where
  out : ratio_times_sd x_0_0 x_0_1 x_0_2 y_1_0 y_1_1 y_1_2 K w

def ratio_times_P0 (Kv : VW) (ρ : Rho) (vs : List Value) (w : World) : Prop :=
  match ρ, vs with
  | _, [.pointer (some t_4)] => ratio_times_k0 t_4  (fun (r0_0 : Int) (r0_1 : Int) (r1 : Bool) (w' : World) => Kv (Value.tuple #[(Value.agg #[(Value.int .i64 r0_0), (Value.int .i64 r0_1)]), (Value.bool r1)]) w') w
  | _, _ => False

noncomputable def ratio_times_S : Pw.Spec := fun vs w Kv =>
  match vs with
  | [.agg ⟨[.bool x_0_0, .int .u64 x_0_1, .int .u64 x_0_2]⟩, .agg ⟨[.bool y_1_0, .int .u64 y_1_1, .int .u64 y_1_2]⟩] => ratio_times_sh x_0_0 x_0_1 x_0_2 y_1_0 y_1_1 y_1_2 (fun (r0_0 : Int) (r0_1 : Int) (r1 : Bool) (w' : World) => Kv (Value.tuple #[(Value.agg #[(Value.int .i64 r0_0), (Value.int .i64 r0_1)]), (Value.bool r1)]) w') w
  | _ => False

noncomputable def ratio_times_E : Pw.Env := [(29, ratio_zero_S), (50, ratio_product_S), (55, ratio_gcd_S), (67, ratio_rat_S)]

noncomputable def ratio_times_C : Code := (Tryz.f44.body).getD .skip

noncomputable def ratio_times_A (Kv : VW) : Pw.A :=
  (A.seq (A.reg (RA.run (RA.run (RA.run (RA.run RA.done)))))
   (A.seq (A.seq (A.reg (RA.run (RA.run (RA.run (RA.run (RA.spl 11 (RA.skp (RA.skp (RA.skp (RA.run RA.done)))) (RA.run (RA.run (RA.run (RA.run RA.done))))))))))
   (A.cond (A.cut [4] (ratio_times_P0 Kv) (A.seq (A.reg (RA.run (RA.run (RA.run RA.done))))
   A.leaf))
   A.leaf))
   (A.seq (A.drw (DA.pur 0 (DA.pur 1 (DA.pur 2 (DA.pur 3 (DA.pur 5 (DA.pur 6 (DA.pur 7 (DA.pur 8 (DA.eff 4 (DA.eff 9 (DA.pur 10 (DA.pur 11 DA.done)))))))))))))
   (A.seq (A.drw (DA.pur 0 (DA.pur 1 (DA.pur 2 (DA.pur 3 (DA.pur 4 (DA.pur 5 (DA.pur 6 (DA.pur 7 (DA.pur 8 (DA.pur 9 (DA.pur 10 (DA.pur 11 (DA.pur 12 (DA.pur 14 (DA.pur 15 (DA.pur 16 (DA.pur 17 (DA.pur 18 (DA.pur 19 (DA.pur 20 (DA.pur 21 (DA.eff 13 (DA.eff 22 (DA.eff 23 (DA.pur 24 (DA.pur 25 (DA.eff 26 (DA.pur 27 DA.done)))))))))))))))))))))))))))))
   A.leaf))))

noncomputable def ratio_times_O (Kv : VW) : List Ob := (obs Tryz.prog ratio_times_E 53 (ratio_times_A Kv) ratio_times_C (fun _ => retQ Tryz.prog Tryz.f44.results Kv))

theorem ratio_times_e (Kv : VW) (x_0_0 : Bool) (x_0_1 : Int) (x_0_2 : Int) (y_1_0 : Bool) (y_1_1 : Int) (y_1_2 : Int) (w : World) : ratio_times_sd x_0_0 x_0_1 x_0_2 y_1_0 y_1_1 y_1_2 (fun (r0_0 : Int) (r0_1 : Int) (r1 : Bool) (w' : World) => Kv (Value.tuple #[(Value.agg #[(Value.int .i64 r0_0), (Value.int .i64 r0_1)]), (Value.bool r1)]) w') w = W Tryz.prog ratio_times_E 53 (ratio_times_A Kv) ratio_times_C [] (retQ Tryz.prog Tryz.f44.results Kv) [] (startS [(Value.agg #[(Value.bool x_0_0), (Value.int .u64 x_0_1), (Value.int .u64 x_0_2)]), (Value.agg #[(Value.bool y_1_0), (Value.int .u64 y_1_1), (Value.int .u64 y_1_2)])]) w := by kernel_rfl

theorem ratio_times_e0 (Kv : VW) (ρ : Rho) (t_4 : Addr) (w : World) : ratio_times_k0d t_4  (fun (r0_0 : Int) (r0_1 : Int) (r1 : Bool) (w' : World) => Kv (Value.tuple #[(Value.agg #[(Value.int .i64 r0_0), (Value.int .i64 r0_1)]), (Value.bool r1)]) w') w = goalAt Tryz.prog ratio_times_E 53 (ratio_times_O Kv) 0 (ρ) [(Value.pointer (some t_4))] w := by kernel_rfl

theorem ratio_times_q0 (Kv : VW) (ρ : Rho) (vs : List Value) (w : World) : labAt (ratio_times_O Kv) 0 ρ vs w = ratio_times_P0 Kv ρ vs w := by kernel_rfl

theorem ratio_times_h0 (Kv : VW) : holdsAt Tryz.prog ratio_times_E 53 (ratio_times_O Kv) 0 := holdsAt_cut (.inl (by kernel_rfl)) (fun ρ vs w h => by
  rw [ratio_times_q0] at h
  unfold ratio_times_P0 at h
  split at h
  · rw [← ratio_times_e0]; exact h.out
  · exact h.elim)

theorem ratio_times_n (Kv : VW) : obAt (ratio_times_O Kv) 1 = none := by kernel_rfl

theorem ratio_times_h (Kv : VW) : ∀ k, holdsAt Tryz.prog ratio_times_E 53 (ratio_times_O Kv) k := fun k => match k with
  | 0 => ratio_times_h0 Kv
  | _k + 1 => holdsAt_ge (ratio_times_n Kv) (Nat.le_add_left _ _)

theorem ratio_times_ok : Sound Tryz.prog 44 ratio_times_S := ⟨Tryz.call44, fun vs w Kv h => by
  unfold ratio_times_S at h
  split at h
  · have h := h.out
    rw [ratio_times_e] at h
    exact calls_sound (Γ := ratio_times_E) progMixed ⟨.inl ratio_zero_ok, .inl ratio_product_ok, .inl ratio_gcd_ok, .inl ratio_rat_ok, trivial⟩ Tryz.func44 (code := ratio_times_C) (by kernel_rfl) (ratio_times_A Kv) Kv (holds_all (ratio_times_h Kv)) (Nat.le_of_ble_eq_true (by kernel_rfl)) h
  · exact h.elim⟩

/-! ratio_Mul -/
def ratio_Mul_sd (a_0_0 : Int) (a_0_1 : Int) (b_1_0 : Int) (b_1_1 : Int) (K : Int → Int → Bool → World → Prop) (w : World) : Prop :=
  let w1 : World := w.alloc (Obj.cells #[(Value.int .i64 a_0_0), (Value.int .i64 a_0_1)] 26)
  let w2 : World := w1.alloc (Obj.cells #[(Value.int .i64 b_1_0), (Value.int .i64 b_1_1)] 26)
  let w3 : World := w2.alloc (Obj.cells #[(Value.int .i64 (0 : Int)), (Value.int .i64 (0 : Int))] 26)
  ∃ x4 : Int, w3.cell? (Addr.mk w.heap.size 0 none) = some (Value.int .i64 x4) ∧ ∃ x5 : Int, w3.cell? (Addr.mk w.heap.size 1 none) = some (Value.int .i64 x5) ∧ ∃ x6 : Int, w3.cell? (Addr.mk w1.heap.size 0 none) = some (Value.int .i64 x6) ∧ ∃ x7 : Int, w3.cell? (Addr.mk w1.heap.size 1 none) = some (Value.int .i64 x7) ∧ ratio_checked_sh x4 x5 x6 x7 (Value.func (.func 44) #[] #[]) (fun (r9_0 : Int) (r9_1 : Int) (r10 : Bool) (w8 : World) => wrOk w8 (Addr.mk w2.heap.size 0 none) ∧ 
  (let w11 : World := w8.setCell (Addr.mk w2.heap.size 0 none) (Value.int .i64 r9_0)
  wrOk w11 (Addr.mk w2.heap.size 1 none) ∧ 
  (let w12 : World := w11.setCell (Addr.mk w2.heap.size 1 none) (Value.int .i64 r9_1)
  ∃ x13 : Int, w12.cell? (Addr.mk w2.heap.size 0 none) = some (Value.int .i64 x13) ∧ ∃ x14 : Int, w12.cell? (Addr.mk w2.heap.size 1 none) = some (Value.int .i64 x14) ∧ K x13 x14 r10 w12))) w3

structure ratio_Mul_sh (a_0_0 : Int) (a_0_1 : Int) (b_1_0 : Int) (b_1_1 : Int) (K : Int → Int → Bool → World → Prop) (w : World) : Prop where
  out : ratio_Mul_sd a_0_0 a_0_1 b_1_0 b_1_1 K w

noncomputable def ratio_Mul_S : Pw.Spec := fun vs w Kv =>
  match vs with
  | [.agg ⟨[.int .i64 a_0_0, .int .i64 a_0_1]⟩, .agg ⟨[.int .i64 b_1_0, .int .i64 b_1_1]⟩] => ratio_Mul_sh a_0_0 a_0_1 b_1_0 b_1_1 (fun (r0_0 : Int) (r0_1 : Int) (r1 : Bool) (w' : World) => Kv (Value.tuple #[(Value.agg #[(Value.int .i64 r0_0), (Value.int .i64 r0_1)]), (Value.bool r1)]) w') w
  | _ => False

noncomputable def ratio_Mul_E : Pw.Env := [(42, ratio_checked_S)]

noncomputable def ratio_Mul_C : Code := (Tryz.f17.body).getD .skip

noncomputable def ratio_Mul_A (_Kv : VW) : Pw.A :=
  (A.seq (A.reg (RA.run (RA.run (RA.run (RA.run RA.done)))))
   (A.seq (A.reg (RA.run (RA.run (RA.run (RA.run (RA.run (RA.run (RA.run RA.done))))))))
   A.leaf))

noncomputable def ratio_Mul_O (Kv : VW) : List Ob := (obs Tryz.prog ratio_Mul_E 11 (ratio_Mul_A Kv) ratio_Mul_C (fun _ => retQ Tryz.prog Tryz.f17.results Kv))

theorem ratio_Mul_e (Kv : VW) (a_0_0 : Int) (a_0_1 : Int) (b_1_0 : Int) (b_1_1 : Int) (w : World) : ratio_Mul_sd a_0_0 a_0_1 b_1_0 b_1_1 (fun (r0_0 : Int) (r0_1 : Int) (r1 : Bool) (w' : World) => Kv (Value.tuple #[(Value.agg #[(Value.int .i64 r0_0), (Value.int .i64 r0_1)]), (Value.bool r1)]) w') w = W Tryz.prog ratio_Mul_E 11 (ratio_Mul_A Kv) ratio_Mul_C [] (retQ Tryz.prog Tryz.f17.results Kv) [] (startS [(Value.agg #[(Value.int .i64 a_0_0), (Value.int .i64 a_0_1)]), (Value.agg #[(Value.int .i64 b_1_0), (Value.int .i64 b_1_1)])]) w := by kernel_rfl

theorem ratio_Mul_n (Kv : VW) : obAt (ratio_Mul_O Kv) 0 = none := by kernel_rfl

theorem ratio_Mul_h (Kv : VW) : ∀ k, holdsAt Tryz.prog ratio_Mul_E 11 (ratio_Mul_O Kv) k := fun _ => holdsAt_ge (ratio_Mul_n Kv) (Nat.zero_le _)

theorem ratio_Mul_ok : Sound Tryz.prog 17 ratio_Mul_S := ⟨Tryz.call17, fun vs w Kv h => by
  unfold ratio_Mul_S at h
  split at h
  · have h := h.out
    rw [ratio_Mul_e] at h
    exact calls_sound (Γ := ratio_Mul_E) progMixed ⟨.inl ratio_checked_ok, trivial⟩ Tryz.func17 (code := ratio_Mul_C) (by kernel_rfl) (ratio_Mul_A Kv) Kv (holds_all (ratio_Mul_h Kv)) (Nat.le_of_ble_eq_true (by kernel_rfl)) h
  · exact h.elim⟩

/-! ratio_Quo_1 -/
def ratio_Quo_1_sd (x_0_0 : Bool) (x_0_1 : Int) (x_0_2 : Int) (y_1_0 : Bool) (y_1_1 : Int) (y_1_2 : Int) (t_2 : Addr) (K : Int → Int → Bool → World → Prop) (w : World) : Prop :=
  let w1 : World := w.alloc (Obj.cells #[(Value.bool x_0_0), (Value.int .u64 x_0_1), (Value.int .u64 x_0_2)] 61)
  let w2 : World := w1.alloc (Obj.cells #[(Value.bool y_1_0), (Value.int .u64 y_1_1), (Value.int .u64 y_1_2)] 61)
  let w3 : World := w2.alloc (Obj.cells #[(Value.int .i64 (0 : Int)), (Value.int .i64 (0 : Int))] 26)
  ∃ x4 : Int, w3.cell? t_2 = some (Value.int .i64 x4) ∧ cnd (x4 == (0 : Int))
    (ratio_zero_sh (fun (r6_0 : Int) (r6_1 : Int) (w5 : World) => wrOk w5 (Addr.mk w2.heap.size 0 none) ∧ 
  (let w7 : World := w5.setCell (Addr.mk w2.heap.size 0 none) (Value.int .i64 r6_0)
  wrOk w7 (Addr.mk w2.heap.size 1 none) ∧ 
  (let w8 : World := w7.setCell (Addr.mk w2.heap.size 1 none) (Value.int .i64 r6_1)
  ∃ x9 : Int, w8.cell? (Addr.mk w2.heap.size 0 none) = some (Value.int .i64 x9) ∧ ∃ x10 : Int, w8.cell? (Addr.mk w2.heap.size 1 none) = some (Value.int .i64 x10) ∧ K x9 x10 false w8))) w3)
    (∃ x11 : Bool, w3.cell? (Addr.mk w.heap.size 0 none) = some (Value.bool x11) ∧ ∃ x12 : Int, w3.cell? (Addr.mk w.heap.size 1 none) = some (Value.int .u64 x12) ∧ ∃ x13 : Int, w3.cell? (Addr.mk w.heap.size 2 none) = some (Value.int .u64 x13) ∧ ∃ x14 : Bool, w3.cell? (Addr.mk w1.heap.size 0 none) = some (Value.bool x14) ∧ ∃ x15 : Int, w3.cell? (Addr.mk w1.heap.size 2 none) = some (Value.int .u64 x15) ∧ ∃ x16 : Int, w3.cell? (Addr.mk w1.heap.size 1 none) = some (Value.int .u64 x16) ∧ ratio_times_sh x11 x12 x13 x14 x15 x16 (fun (r18_0 : Int) (r18_1 : Int) (r19 : Bool) (w17 : World) => wrOk w17 (Addr.mk w2.heap.size 0 none) ∧ 
  (let w20 : World := w17.setCell (Addr.mk w2.heap.size 0 none) (Value.int .i64 r18_0)
  wrOk w20 (Addr.mk w2.heap.size 1 none) ∧ 
  (let w21 : World := w20.setCell (Addr.mk w2.heap.size 1 none) (Value.int .i64 r18_1)
  ∃ x22 : Int, w21.cell? (Addr.mk w2.heap.size 0 none) = some (Value.int .i64 x22) ∧ ∃ x23 : Int, w21.cell? (Addr.mk w2.heap.size 1 none) = some (Value.int .i64 x23) ∧ K x22 x23 r19 w21))) w3)

structure ratio_Quo_1_sh (x_0_0 : Bool) (x_0_1 : Int) (x_0_2 : Int) (y_1_0 : Bool) (y_1_1 : Int) (y_1_2 : Int) (t_2 : Addr) (K : Int → Int → Bool → World → Prop) (w : World) : Prop where
  out : ratio_Quo_1_sd x_0_0 x_0_1 x_0_2 y_1_0 y_1_1 y_1_2 t_2 K w

noncomputable def ratio_Quo_1_S : Pw.Spec := fun vs w Kv =>
  match vs with
  | [.agg ⟨[.bool x_0_0, .int .u64 x_0_1, .int .u64 x_0_2]⟩, .agg ⟨[.bool y_1_0, .int .u64 y_1_1, .int .u64 y_1_2]⟩, .pointer (some t_2)] => ratio_Quo_1_sh x_0_0 x_0_1 x_0_2 y_1_0 y_1_1 y_1_2 t_2 (fun (r0_0 : Int) (r0_1 : Int) (r1 : Bool) (w' : World) => Kv (Value.tuple #[(Value.agg #[(Value.int .i64 r0_0), (Value.int .i64 r0_1)]), (Value.bool r1)]) w') w
  | _ => False

noncomputable def ratio_Quo_1_E : Pw.Env := [(29, ratio_zero_S), (44, ratio_times_S)]

noncomputable def ratio_Quo_1_C : Code := (Tryz.f45.body).getD .skip

noncomputable def ratio_Quo_1_A (_Kv : VW) : Pw.A :=
  (A.seq (A.reg (RA.run (RA.run (RA.run (RA.run RA.done)))))
   (A.seq (A.seq (A.reg (RA.run (RA.run (RA.run RA.done))))
   (A.cond (A.seq (A.reg (RA.run (RA.run (RA.run RA.done))))
   A.leaf)
   A.leaf))
   (A.seq (A.reg (RA.run (RA.run (RA.run (RA.run (RA.run (RA.run (RA.run (RA.run (RA.run (RA.run (RA.run (RA.run (RA.run RA.done))))))))))))))
   A.leaf)))

noncomputable def ratio_Quo_1_O (Kv : VW) : List Ob := (obs Tryz.prog ratio_Quo_1_E 22 (ratio_Quo_1_A Kv) ratio_Quo_1_C (fun _ => retQ Tryz.prog Tryz.f45.results Kv))

theorem ratio_Quo_1_e (Kv : VW) (x_0_0 : Bool) (x_0_1 : Int) (x_0_2 : Int) (y_1_0 : Bool) (y_1_1 : Int) (y_1_2 : Int) (t_2 : Addr) (w : World) : ratio_Quo_1_sd x_0_0 x_0_1 x_0_2 y_1_0 y_1_1 y_1_2 t_2 (fun (r0_0 : Int) (r0_1 : Int) (r1 : Bool) (w' : World) => Kv (Value.tuple #[(Value.agg #[(Value.int .i64 r0_0), (Value.int .i64 r0_1)]), (Value.bool r1)]) w') w = W Tryz.prog ratio_Quo_1_E 22 (ratio_Quo_1_A Kv) ratio_Quo_1_C [] (retQ Tryz.prog Tryz.f45.results Kv) [] (startS [(Value.agg #[(Value.bool x_0_0), (Value.int .u64 x_0_1), (Value.int .u64 x_0_2)]), (Value.agg #[(Value.bool y_1_0), (Value.int .u64 y_1_1), (Value.int .u64 y_1_2)]), (Value.pointer (some t_2))]) w := by kernel_rfl

theorem ratio_Quo_1_n (Kv : VW) : obAt (ratio_Quo_1_O Kv) 0 = none := by kernel_rfl

theorem ratio_Quo_1_h (Kv : VW) : ∀ k, holdsAt Tryz.prog ratio_Quo_1_E 22 (ratio_Quo_1_O Kv) k := fun _ => holdsAt_ge (ratio_Quo_1_n Kv) (Nat.zero_le _)

theorem ratio_Quo_1_ok : Sound Tryz.prog 45 ratio_Quo_1_S := ⟨Tryz.call45, fun vs w Kv h => by
  unfold ratio_Quo_1_S at h
  split at h
  · have h := h.out
    rw [ratio_Quo_1_e] at h
    exact calls_sound (Γ := ratio_Quo_1_E) progMixed ⟨.inl ratio_zero_ok, .inl ratio_times_ok, trivial⟩ Tryz.func45 (code := ratio_Quo_1_C) (by kernel_rfl) (ratio_Quo_1_A Kv) Kv (holds_all (ratio_Quo_1_h Kv)) (Nat.le_of_ble_eq_true (by kernel_rfl)) h
  · exact h.elim⟩

/-! ratio_Quo -/
def ratio_Quo_sd (a_0_0 : Int) (a_0_1 : Int) (b_1_0 : Int) (b_1_1 : Int) (K : Int → Int → Bool → World → Prop) (w : World) : Prop :=
  let w1 : World := w.alloc (Obj.cells #[(Value.int .i64 a_0_0), (Value.int .i64 a_0_1)] 26)
  let w2 : World := w1.alloc (Obj.cells #[(Value.int .i64 b_1_0), (Value.int .i64 b_1_1)] 26)
  let w3 : World := w2.alloc (Obj.cells #[(Value.int .i64 (0 : Int)), (Value.int .i64 (0 : Int))] 26)
  ∃ x4 : Int, w3.cell? (Addr.mk w.heap.size 0 none) = some (Value.int .i64 x4) ∧ ∃ x5 : Int, w3.cell? (Addr.mk w.heap.size 1 none) = some (Value.int .i64 x5) ∧ ∃ x6 : Int, w3.cell? (Addr.mk w1.heap.size 0 none) = some (Value.int .i64 x6) ∧ ∃ x7 : Int, w3.cell? (Addr.mk w1.heap.size 1 none) = some (Value.int .i64 x7) ∧ ratio_checked_sh x4 x5 x6 x7 (Value.func (.func 45) #[] #[(Value.pointer (some (Addr.mk w1.heap.size 0 none)))]) (fun (r9_0 : Int) (r9_1 : Int) (r10 : Bool) (w8 : World) => wrOk w8 (Addr.mk w2.heap.size 0 none) ∧ 
  (let w11 : World := w8.setCell (Addr.mk w2.heap.size 0 none) (Value.int .i64 r9_0)
  wrOk w11 (Addr.mk w2.heap.size 1 none) ∧ 
  (let w12 : World := w11.setCell (Addr.mk w2.heap.size 1 none) (Value.int .i64 r9_1)
  ∃ x13 : Int, w12.cell? (Addr.mk w2.heap.size 0 none) = some (Value.int .i64 x13) ∧ ∃ x14 : Int, w12.cell? (Addr.mk w2.heap.size 1 none) = some (Value.int .i64 x14) ∧ K x13 x14 r10 w12))) w3

structure ratio_Quo_sh (a_0_0 : Int) (a_0_1 : Int) (b_1_0 : Int) (b_1_1 : Int) (K : Int → Int → Bool → World → Prop) (w : World) : Prop where
  out : ratio_Quo_sd a_0_0 a_0_1 b_1_0 b_1_1 K w

noncomputable def ratio_Quo_S : Pw.Spec := fun vs w Kv =>
  match vs with
  | [.agg ⟨[.int .i64 a_0_0, .int .i64 a_0_1]⟩, .agg ⟨[.int .i64 b_1_0, .int .i64 b_1_1]⟩] => ratio_Quo_sh a_0_0 a_0_1 b_1_0 b_1_1 (fun (r0_0 : Int) (r0_1 : Int) (r1 : Bool) (w' : World) => Kv (Value.tuple #[(Value.agg #[(Value.int .i64 r0_0), (Value.int .i64 r0_1)]), (Value.bool r1)]) w') w
  | _ => False

noncomputable def ratio_Quo_E : Pw.Env := [(42, ratio_checked_S)]

noncomputable def ratio_Quo_C : Code := (Tryz.f18.body).getD .skip

noncomputable def ratio_Quo_A (_Kv : VW) : Pw.A :=
  (A.seq (A.reg (RA.run (RA.run (RA.run (RA.run RA.done)))))
   (A.seq (A.reg (RA.run (RA.run (RA.run (RA.run (RA.run (RA.run (RA.run (RA.run RA.done)))))))))
   A.leaf))

noncomputable def ratio_Quo_O (Kv : VW) : List Ob := (obs Tryz.prog ratio_Quo_E 12 (ratio_Quo_A Kv) ratio_Quo_C (fun _ => retQ Tryz.prog Tryz.f18.results Kv))

theorem ratio_Quo_e (Kv : VW) (a_0_0 : Int) (a_0_1 : Int) (b_1_0 : Int) (b_1_1 : Int) (w : World) : ratio_Quo_sd a_0_0 a_0_1 b_1_0 b_1_1 (fun (r0_0 : Int) (r0_1 : Int) (r1 : Bool) (w' : World) => Kv (Value.tuple #[(Value.agg #[(Value.int .i64 r0_0), (Value.int .i64 r0_1)]), (Value.bool r1)]) w') w = W Tryz.prog ratio_Quo_E 12 (ratio_Quo_A Kv) ratio_Quo_C [] (retQ Tryz.prog Tryz.f18.results Kv) [] (startS [(Value.agg #[(Value.int .i64 a_0_0), (Value.int .i64 a_0_1)]), (Value.agg #[(Value.int .i64 b_1_0), (Value.int .i64 b_1_1)])]) w := by kernel_rfl

theorem ratio_Quo_n (Kv : VW) : obAt (ratio_Quo_O Kv) 0 = none := by kernel_rfl

theorem ratio_Quo_h (Kv : VW) : ∀ k, holdsAt Tryz.prog ratio_Quo_E 12 (ratio_Quo_O Kv) k := fun _ => holdsAt_ge (ratio_Quo_n Kv) (Nat.zero_le _)

theorem ratio_Quo_ok : Sound Tryz.prog 18 ratio_Quo_S := ⟨Tryz.call18, fun vs w Kv h => by
  unfold ratio_Quo_S at h
  split at h
  · have h := h.out
    rw [ratio_Quo_e] at h
    exact calls_sound (Γ := ratio_Quo_E) progMixed ⟨.inl ratio_checked_ok, trivial⟩ Tryz.func18 (code := ratio_Quo_C) (by kernel_rfl) (ratio_Quo_A Kv) Kv (holds_all (ratio_Quo_h Kv)) (Nat.le_of_ble_eq_true (by kernel_rfl)) h
  · exact h.elim⟩

/-! cmp_isNaN -/
def cmp_isNaN_sd (x_0 : Int) (K : Bool → World → Prop) (w : World) : Prop :=
  K (x_0 != x_0) w

structure cmp_isNaN_sh (x_0 : Int) (K : Bool → World → Prop) (w : World) : Prop where
  out : cmp_isNaN_sd x_0 K w

noncomputable def cmp_isNaN_S : Pw.Spec := fun vs w Kv =>
  match vs with
  | [.int .i64 x_0] => cmp_isNaN_sh x_0 (fun (r0 : Bool) (w' : World) => Kv (Value.bool r0) w') w
  | _ => False

noncomputable def cmp_isNaN_E : Pw.Env := []

noncomputable def cmp_isNaN_C : Code := (Tryz.f71.body).getD .skip

noncomputable def cmp_isNaN_A (_Kv : VW) : Pw.A :=
  (A.seq (A.reg (RA.run RA.done))
   (A.seq (A.reg (RA.run (RA.run (RA.run (RA.run RA.done)))))
   A.leaf))

noncomputable def cmp_isNaN_O (Kv : VW) : List Ob := (obs Tryz.prog cmp_isNaN_E 6 (cmp_isNaN_A Kv) cmp_isNaN_C (fun _ => retQ Tryz.prog Tryz.f71.results Kv))

theorem cmp_isNaN_e (Kv : VW) (x_0 : Int) (w : World) : cmp_isNaN_sd x_0 (fun (r0 : Bool) (w' : World) => Kv (Value.bool r0) w') w = W Tryz.prog cmp_isNaN_E 6 (cmp_isNaN_A Kv) cmp_isNaN_C [] (retQ Tryz.prog Tryz.f71.results Kv) [] (startS [(Value.int .i64 x_0)]) w := by kernel_rfl

theorem cmp_isNaN_n (Kv : VW) : obAt (cmp_isNaN_O Kv) 0 = none := by kernel_rfl

theorem cmp_isNaN_h (Kv : VW) : ∀ k, holdsAt Tryz.prog cmp_isNaN_E 6 (cmp_isNaN_O Kv) k := fun _ => holdsAt_ge (cmp_isNaN_n Kv) (Nat.zero_le _)

theorem cmp_isNaN_ok : Sound Tryz.prog 71 cmp_isNaN_S := ⟨Tryz.call71, fun vs w Kv h => by
  unfold cmp_isNaN_S at h
  split at h
  · have h := h.out
    rw [cmp_isNaN_e] at h
    exact calls_sound (Γ := cmp_isNaN_E) progMixed trivial Tryz.func71 (code := cmp_isNaN_C) (by kernel_rfl) (cmp_isNaN_A Kv) Kv (holds_all (cmp_isNaN_h Kv)) (Nat.le_of_ble_eq_true (by kernel_rfl)) h
  · exact h.elim⟩

/-! cmp_Compare -/
def cmp_Compare_sd (x_0 : Int) (y_1 : Int) (K : Int → World → Prop) (w : World) : Prop :=
  cmp_isNaN_sh x_0 (fun (r2 : Bool) (w1 : World) => cmp_isNaN_sh y_1 (fun (r4 : Bool) (w3 : World) => cnd r2
    (cnd r4
    (K (0 : Int) w3)
    (K (-1 : Int) w3))
    (cnd r4
    (K (1 : Int) w3)
    (cnd (decide (x_0 < y_1))
    (K (-1 : Int) w3)
    (cnd (decide (x_0 > y_1))
    (K (1 : Int) w3)
    (K (0 : Int) w3))))) w1) w

structure cmp_Compare_sh (x_0 : Int) (y_1 : Int) (K : Int → World → Prop) (w : World) : Prop where
  out : cmp_Compare_sd x_0 y_1 K w

noncomputable def cmp_Compare_S : Pw.Spec := fun vs w Kv =>
  match vs with
  | [.int .i64 x_0, .int .i64 y_1] => cmp_Compare_sh x_0 y_1 (fun (r0 : Int) (w' : World) => Kv (Value.int .i64 r0) w') w
  | _ => False

noncomputable def cmp_Compare_E : Pw.Env := [(71, cmp_isNaN_S)]

noncomputable def cmp_Compare_C : Code := (Tryz.f48.body).getD .skip

noncomputable def cmp_Compare_A (_Kv : VW) : Pw.A :=
  (A.seq (A.reg (RA.run RA.done))
   (A.seq (A.reg (RA.run (RA.run (RA.run RA.done))))
   (A.seq (A.reg (RA.run (RA.run (RA.run RA.done))))
   (A.seq (A.seq (A.reg (RA.run RA.done))
   (A.cond (A.seq (A.seq (A.reg (RA.run RA.done))
   (A.cond (A.seq (A.reg (RA.run RA.done))
   A.leaf)
   A.leaf))
   (A.seq (A.reg (RA.run RA.done))
   A.leaf))
   A.leaf))
   (A.seq (A.seq (A.reg (RA.run RA.done))
   (A.cond (A.seq (A.reg (RA.run RA.done))
   A.leaf)
   A.leaf))
   (A.seq (A.seq (A.reg (RA.run (RA.run (RA.run RA.done))))
   (A.cond (A.seq (A.reg (RA.run RA.done))
   A.leaf)
   A.leaf))
   (A.seq (A.seq (A.reg (RA.run (RA.run (RA.run RA.done))))
   (A.cond (A.seq (A.reg (RA.run RA.done))
   A.leaf)
   A.leaf))
   (A.seq (A.reg (RA.run RA.done))
   A.leaf))))))))

noncomputable def cmp_Compare_O (Kv : VW) : List Ob := (obs Tryz.prog cmp_Compare_E 20 (cmp_Compare_A Kv) cmp_Compare_C (fun _ => retQ Tryz.prog Tryz.f48.results Kv))

theorem cmp_Compare_e (Kv : VW) (x_0 : Int) (y_1 : Int) (w : World) : cmp_Compare_sd x_0 y_1 (fun (r0 : Int) (w' : World) => Kv (Value.int .i64 r0) w') w = W Tryz.prog cmp_Compare_E 20 (cmp_Compare_A Kv) cmp_Compare_C [] (retQ Tryz.prog Tryz.f48.results Kv) [] (startS [(Value.int .i64 x_0), (Value.int .i64 y_1)]) w := by kernel_rfl

theorem cmp_Compare_n (Kv : VW) : obAt (cmp_Compare_O Kv) 0 = none := by kernel_rfl

theorem cmp_Compare_h (Kv : VW) : ∀ k, holdsAt Tryz.prog cmp_Compare_E 20 (cmp_Compare_O Kv) k := fun _ => holdsAt_ge (cmp_Compare_n Kv) (Nat.zero_le _)

theorem cmp_Compare_ok : Sound Tryz.prog 48 cmp_Compare_S := ⟨Tryz.call48, fun vs w Kv h => by
  unfold cmp_Compare_S at h
  split at h
  · have h := h.out
    rw [cmp_Compare_e] at h
    exact calls_sound (Γ := cmp_Compare_E) progMixed ⟨.inl cmp_isNaN_ok, trivial⟩ Tryz.func48 (code := cmp_Compare_C) (by kernel_rfl) (cmp_Compare_A Kv) Kv (holds_all (cmp_Compare_h Kv)) (Nat.le_of_ble_eq_true (by kernel_rfl)) h
  · exact h.elim⟩

/-! ratio_Cmp -/
def ratio_Cmp_k0d (a_2 : Addr) (b_3 : Addr) (x_5 : Addr) (y_6 : Addr)  (K : Int → World → Prop) (w : World) : Prop :=
  ∃ x137 : Bool, w.cell? x_5 = some (Value.bool x137) ∧ ∃ x138 : Bool, w.cell? y_6 = some (Value.bool x138) ∧ cnd (!(x137 == x138))
    (∃ x139 : Int, w.cell? a_2 = some (Value.int .i64 x139) ∧ ∃ x140 : Int, w.cell? b_3 = some (Value.int .i64 x140) ∧ cmp_Compare_sh x139 x140 (fun (r142 : Int) (w141 : World) => K r142 w141) w)
    (let w143 : World := w.drew
  ∃ S144 : World → Prop, S144 w143 ∧ ∃ x145 : Int, (∀ w' : World, S144 w' → w'.cell? (x_5.add 1) = some (Value.int .u64 x145)) ∧ ∃ x146 : Int, (∀ w' : World, S144 w' → w'.cell? (y_6.add 2) = some (Value.int .u64 x146)) ∧ ∃ x147 : Int, (∀ w' : World, S144 w' → w'.cell? (y_6.add 1) = some (Value.int .u64 x147)) ∧ ∃ x148 : Int, (∀ w' : World, S144 w' → w'.cell? (x_5.add 2) = some (Value.int .u64 x148)) ∧ ratio_product_sh x145 x146 (fun (r150_0 : Int) (r150_1 : Int) (w149 : World) => S144 w149 ∧ ratio_product_sh x147 x148 (fun (r152_0 : Int) (r152_1 : Int) (w151 : World) => S144 w151 ∧ ratio_compare_sh r150_0 r150_1 r152_0 r152_1 (fun (r154 : Int) (w153 : World) => S144 w153 ∧ ∃ x155 : Bool, w153.cell? x_5 = some (Value.bool x155) ∧ cnd x155
    (inR .i64 (-r154) ∧ K (-r154) w153)
    (K r154 w153)) w151) w149) w143)
structure ratio_Cmp_k0 (a_2 : Addr) (b_3 : Addr) (x_5 : Addr) (y_6 : Addr)  (K : Int → World → Prop) (w : World) : Prop where
  out : ratio_Cmp_k0d a_2 b_3 x_5 y_6 K w

def ratio_Cmp_sd (a_0_0 : Int) (a_0_1 : Int) (b_1_0 : Int) (b_1_1 : Int) (K : Int → World → Prop) (w : World) : Prop :=
  let w1 : World := w.alloc (Obj.cells #[(Value.int .i64 a_0_0), (Value.int .i64 a_0_1)] 26)
  let w2 : World := w1.alloc (Obj.cells #[(Value.int .i64 b_1_0), (Value.int .i64 b_1_1)] 26)
  ∃ x3 : Int, w2.cell? (Addr.mk w.heap.size 0 none) = some (Value.int .i64 x3) ∧ ∃ x4 : Int, w2.cell? (Addr.mk w.heap.size 1 none) = some (Value.int .i64 x4) ∧ ∃ x5 : Int, w2.cell? (Addr.mk w1.heap.size 0 none) = some (Value.int .i64 x5) ∧ ∃ x6 : Int, w2.cell? (Addr.mk w1.heap.size 1 none) = some (Value.int .i64 x6) ∧ ratio_both_sh x3 x4 x5 x6 (fun (r8 : Bool) (w7 : World) => cnd (!r8)
    (K (0 : Int) w7)
    (let w9 : World := w7.drew
  ∃ S10 : World → Prop, S10 w9 ∧ ∃ x11 : Int, (∀ w' : World, S10 w' → w'.cell? (Addr.mk w.heap.size 0 none) = some (Value.int .i64 x11)) ∧ ∃ x12 : Int, (∀ w' : World, S10 w' → w'.cell? (Addr.mk w.heap.size 1 none) = some (Value.int .i64 x12)) ∧ ∃ x13 : Int, (∀ w' : World, S10 w' → w'.cell? (Addr.mk w1.heap.size 0 none) = some (Value.int .i64 x13)) ∧ ∃ x14 : Int, (∀ w' : World, S10 w' → w'.cell? (Addr.mk w1.heap.size 1 none) = some (Value.int .i64 x14)) ∧ (ratio_of_sh x11 x12 (fun (r16_0 : Bool) (r16_1 : Int) (r16_2 : Int) (w15 : World) => S10 w15 ∧ (ratio_of_sh x13 x14 (fun (r18_0 : Bool) (r18_1 : Int) (r18_2 : Int) (w17 : World) => S10 w17 ∧ (let w19 : World := w17.alloc (Obj.cells #[(Value.bool false), (Value.int .u64 (0 : Int)), (Value.int .u64 (0 : Int))] 61)
  S10 w19 ∧ let w20 : World := w19.alloc (Obj.cells #[(Value.bool false), (Value.int .u64 (0 : Int)), (Value.int .u64 (0 : Int))] 61)
  S10 w20 ∧ wrOk w20 (Addr.mk w17.heap.size 0 none) ∧ 
  (let w21 : World := w20.setCell (Addr.mk w17.heap.size 0 none) (Value.bool r16_0)
  wrOk w21 (Addr.mk w17.heap.size 1 none) ∧ 
  (let w22 : World := w21.setCell (Addr.mk w17.heap.size 1 none) (Value.int .u64 r16_1)
  wrOk w22 (Addr.mk w17.heap.size 2 none) ∧ 
  (let w23 : World := w22.setCell (Addr.mk w17.heap.size 2 none) (Value.int .u64 r16_2)
  S10 w23 ∧ wrOk w23 (Addr.mk w19.heap.size 0 none) ∧ 
  (let w24 : World := w23.setCell (Addr.mk w19.heap.size 0 none) (Value.bool r18_0)
  wrOk w24 (Addr.mk w19.heap.size 1 none) ∧ 
  (let w25 : World := w24.setCell (Addr.mk w19.heap.size 1 none) (Value.int .u64 r18_1)
  wrOk w25 (Addr.mk w19.heap.size 2 none) ∧ 
  (let w26 : World := w25.setCell (Addr.mk w19.heap.size 2 none) (Value.int .u64 r18_2)
  ratio_Cmp_k0 (Addr.mk w.heap.size 0 none) (Addr.mk w1.heap.size 0 none) (Addr.mk w17.heap.size 0 none) (Addr.mk w19.heap.size 0 none) K w26)))))))
    ∧ (let w27 : World := w17.alloc (Obj.cells #[(Value.bool false), (Value.int .u64 (0 : Int)), (Value.int .u64 (0 : Int))] 61)
  S10 w27 ∧ let w28 : World := w27.alloc (Obj.cells #[(Value.bool false), (Value.int .u64 (0 : Int)), (Value.int .u64 (0 : Int))] 61)
  S10 w28 ∧ wrOk w28 (Addr.mk w27.heap.size 0 none) ∧ 
  (let w29 : World := w28.setCell (Addr.mk w27.heap.size 0 none) (Value.bool r16_0)
  wrOk w29 (Addr.mk w27.heap.size 1 none) ∧ 
  (let w30 : World := w29.setCell (Addr.mk w27.heap.size 1 none) (Value.int .u64 r16_1)
  wrOk w30 (Addr.mk w27.heap.size 2 none) ∧ 
  (let w31 : World := w30.setCell (Addr.mk w27.heap.size 2 none) (Value.int .u64 r16_2)
  S10 w31 ∧ wrOk w31 (Addr.mk w17.heap.size 0 none) ∧ 
  (let w32 : World := w31.setCell (Addr.mk w17.heap.size 0 none) (Value.bool r18_0)
  wrOk w32 (Addr.mk w17.heap.size 1 none) ∧ 
  (let w33 : World := w32.setCell (Addr.mk w17.heap.size 1 none) (Value.int .u64 r18_1)
  wrOk w33 (Addr.mk w17.heap.size 2 none) ∧ 
  (let w34 : World := w33.setCell (Addr.mk w17.heap.size 2 none) (Value.int .u64 r18_2)
  ratio_Cmp_k0 (Addr.mk w.heap.size 0 none) (Addr.mk w1.heap.size 0 none) (Addr.mk w27.heap.size 0 none) (Addr.mk w17.heap.size 0 none) K w34)))))))) w15)
    ∧ (let w35 : World := w15.alloc (Obj.cells #[(Value.bool false), (Value.int .u64 (0 : Int)), (Value.int .u64 (0 : Int))] 61)
  S10 w35 ∧ (ratio_of_sh x13 x14 (fun (r37_0 : Bool) (r37_1 : Int) (r37_2 : Int) (w36 : World) => S10 w36 ∧ let w38 : World := w36.alloc (Obj.cells #[(Value.bool false), (Value.int .u64 (0 : Int)), (Value.int .u64 (0 : Int))] 61)
  S10 w38 ∧ wrOk w38 (Addr.mk w15.heap.size 0 none) ∧ 
  (let w39 : World := w38.setCell (Addr.mk w15.heap.size 0 none) (Value.bool r16_0)
  wrOk w39 (Addr.mk w15.heap.size 1 none) ∧ 
  (let w40 : World := w39.setCell (Addr.mk w15.heap.size 1 none) (Value.int .u64 r16_1)
  wrOk w40 (Addr.mk w15.heap.size 2 none) ∧ 
  (let w41 : World := w40.setCell (Addr.mk w15.heap.size 2 none) (Value.int .u64 r16_2)
  S10 w41 ∧ wrOk w41 (Addr.mk w36.heap.size 0 none) ∧ 
  (let w42 : World := w41.setCell (Addr.mk w36.heap.size 0 none) (Value.bool r37_0)
  wrOk w42 (Addr.mk w36.heap.size 1 none) ∧ 
  (let w43 : World := w42.setCell (Addr.mk w36.heap.size 1 none) (Value.int .u64 r37_1)
  wrOk w43 (Addr.mk w36.heap.size 2 none) ∧ 
  (let w44 : World := w43.setCell (Addr.mk w36.heap.size 2 none) (Value.int .u64 r37_2)
  ratio_Cmp_k0 (Addr.mk w.heap.size 0 none) (Addr.mk w1.heap.size 0 none) (Addr.mk w15.heap.size 0 none) (Addr.mk w36.heap.size 0 none) K w44))))))) w35)
    ∧ (let w45 : World := w35.alloc (Obj.cells #[(Value.bool false), (Value.int .u64 (0 : Int)), (Value.int .u64 (0 : Int))] 61)
  S10 w45 ∧ ratio_of_sh x13 x14 (fun (r47_0 : Bool) (r47_1 : Int) (r47_2 : Int) (w46 : World) => S10 w46 ∧ wrOk w46 (Addr.mk w15.heap.size 0 none) ∧ 
  (let w48 : World := w46.setCell (Addr.mk w15.heap.size 0 none) (Value.bool r16_0)
  wrOk w48 (Addr.mk w15.heap.size 1 none) ∧ 
  (let w49 : World := w48.setCell (Addr.mk w15.heap.size 1 none) (Value.int .u64 r16_1)
  wrOk w49 (Addr.mk w15.heap.size 2 none) ∧ 
  (let w50 : World := w49.setCell (Addr.mk w15.heap.size 2 none) (Value.int .u64 r16_2)
  S10 w50 ∧ wrOk w50 (Addr.mk w35.heap.size 0 none) ∧ 
  (let w51 : World := w50.setCell (Addr.mk w35.heap.size 0 none) (Value.bool r47_0)
  wrOk w51 (Addr.mk w35.heap.size 1 none) ∧ 
  (let w52 : World := w51.setCell (Addr.mk w35.heap.size 1 none) (Value.int .u64 r47_1)
  wrOk w52 (Addr.mk w35.heap.size 2 none) ∧ 
  (let w53 : World := w52.setCell (Addr.mk w35.heap.size 2 none) (Value.int .u64 r47_2)
  ratio_Cmp_k0 (Addr.mk w.heap.size 0 none) (Addr.mk w1.heap.size 0 none) (Addr.mk w15.heap.size 0 none) (Addr.mk w35.heap.size 0 none) K w53))))))) w45))
    ∧ (let w54 : World := w15.alloc (Obj.cells #[(Value.bool false), (Value.int .u64 (0 : Int)), (Value.int .u64 (0 : Int))] 61)
  S10 w54 ∧ (ratio_of_sh x13 x14 (fun (r56_0 : Bool) (r56_1 : Int) (r56_2 : Int) (w55 : World) => S10 w55 ∧ let w57 : World := w55.alloc (Obj.cells #[(Value.bool false), (Value.int .u64 (0 : Int)), (Value.int .u64 (0 : Int))] 61)
  S10 w57 ∧ wrOk w57 (Addr.mk w55.heap.size 0 none) ∧ 
  (let w58 : World := w57.setCell (Addr.mk w55.heap.size 0 none) (Value.bool r16_0)
  wrOk w58 (Addr.mk w55.heap.size 1 none) ∧ 
  (let w59 : World := w58.setCell (Addr.mk w55.heap.size 1 none) (Value.int .u64 r16_1)
  wrOk w59 (Addr.mk w55.heap.size 2 none) ∧ 
  (let w60 : World := w59.setCell (Addr.mk w55.heap.size 2 none) (Value.int .u64 r16_2)
  S10 w60 ∧ wrOk w60 (Addr.mk w15.heap.size 0 none) ∧ 
  (let w61 : World := w60.setCell (Addr.mk w15.heap.size 0 none) (Value.bool r56_0)
  wrOk w61 (Addr.mk w15.heap.size 1 none) ∧ 
  (let w62 : World := w61.setCell (Addr.mk w15.heap.size 1 none) (Value.int .u64 r56_1)
  wrOk w62 (Addr.mk w15.heap.size 2 none) ∧ 
  (let w63 : World := w62.setCell (Addr.mk w15.heap.size 2 none) (Value.int .u64 r56_2)
  ratio_Cmp_k0 (Addr.mk w.heap.size 0 none) (Addr.mk w1.heap.size 0 none) (Addr.mk w55.heap.size 0 none) (Addr.mk w15.heap.size 0 none) K w63))))))) w54)
    ∧ (let w64 : World := w54.alloc (Obj.cells #[(Value.bool false), (Value.int .u64 (0 : Int)), (Value.int .u64 (0 : Int))] 61)
  S10 w64 ∧ ratio_of_sh x13 x14 (fun (r66_0 : Bool) (r66_1 : Int) (r66_2 : Int) (w65 : World) => S10 w65 ∧ wrOk w65 (Addr.mk w54.heap.size 0 none) ∧ 
  (let w67 : World := w65.setCell (Addr.mk w54.heap.size 0 none) (Value.bool r16_0)
  wrOk w67 (Addr.mk w54.heap.size 1 none) ∧ 
  (let w68 : World := w67.setCell (Addr.mk w54.heap.size 1 none) (Value.int .u64 r16_1)
  wrOk w68 (Addr.mk w54.heap.size 2 none) ∧ 
  (let w69 : World := w68.setCell (Addr.mk w54.heap.size 2 none) (Value.int .u64 r16_2)
  S10 w69 ∧ wrOk w69 (Addr.mk w15.heap.size 0 none) ∧ 
  (let w70 : World := w69.setCell (Addr.mk w15.heap.size 0 none) (Value.bool r66_0)
  wrOk w70 (Addr.mk w15.heap.size 1 none) ∧ 
  (let w71 : World := w70.setCell (Addr.mk w15.heap.size 1 none) (Value.int .u64 r66_1)
  wrOk w71 (Addr.mk w15.heap.size 2 none) ∧ 
  (let w72 : World := w71.setCell (Addr.mk w15.heap.size 2 none) (Value.int .u64 r66_2)
  ratio_Cmp_k0 (Addr.mk w.heap.size 0 none) (Addr.mk w1.heap.size 0 none) (Addr.mk w54.heap.size 0 none) (Addr.mk w15.heap.size 0 none) K w72))))))) w64))) w9)
    ∧ (let w73 : World := w9.alloc (Obj.cells #[(Value.bool false), (Value.int .u64 (0 : Int)), (Value.int .u64 (0 : Int))] 61)
  S10 w73 ∧ (ratio_of_sh x11 x12 (fun (r75_0 : Bool) (r75_1 : Int) (r75_2 : Int) (w74 : World) => S10 w74 ∧ (ratio_of_sh x13 x14 (fun (r77_0 : Bool) (r77_1 : Int) (r77_2 : Int) (w76 : World) => S10 w76 ∧ let w78 : World := w76.alloc (Obj.cells #[(Value.bool false), (Value.int .u64 (0 : Int)), (Value.int .u64 (0 : Int))] 61)
  S10 w78 ∧ wrOk w78 (Addr.mk w9.heap.size 0 none) ∧ 
  (let w79 : World := w78.setCell (Addr.mk w9.heap.size 0 none) (Value.bool r75_0)
  wrOk w79 (Addr.mk w9.heap.size 1 none) ∧ 
  (let w80 : World := w79.setCell (Addr.mk w9.heap.size 1 none) (Value.int .u64 r75_1)
  wrOk w80 (Addr.mk w9.heap.size 2 none) ∧ 
  (let w81 : World := w80.setCell (Addr.mk w9.heap.size 2 none) (Value.int .u64 r75_2)
  S10 w81 ∧ wrOk w81 (Addr.mk w76.heap.size 0 none) ∧ 
  (let w82 : World := w81.setCell (Addr.mk w76.heap.size 0 none) (Value.bool r77_0)
  wrOk w82 (Addr.mk w76.heap.size 1 none) ∧ 
  (let w83 : World := w82.setCell (Addr.mk w76.heap.size 1 none) (Value.int .u64 r77_1)
  wrOk w83 (Addr.mk w76.heap.size 2 none) ∧ 
  (let w84 : World := w83.setCell (Addr.mk w76.heap.size 2 none) (Value.int .u64 r77_2)
  ratio_Cmp_k0 (Addr.mk w.heap.size 0 none) (Addr.mk w1.heap.size 0 none) (Addr.mk w9.heap.size 0 none) (Addr.mk w76.heap.size 0 none) K w84))))))) w74)
    ∧ (let w85 : World := w74.alloc (Obj.cells #[(Value.bool false), (Value.int .u64 (0 : Int)), (Value.int .u64 (0 : Int))] 61)
  S10 w85 ∧ ratio_of_sh x13 x14 (fun (r87_0 : Bool) (r87_1 : Int) (r87_2 : Int) (w86 : World) => S10 w86 ∧ wrOk w86 (Addr.mk w9.heap.size 0 none) ∧ 
  (let w88 : World := w86.setCell (Addr.mk w9.heap.size 0 none) (Value.bool r75_0)
  wrOk w88 (Addr.mk w9.heap.size 1 none) ∧ 
  (let w89 : World := w88.setCell (Addr.mk w9.heap.size 1 none) (Value.int .u64 r75_1)
  wrOk w89 (Addr.mk w9.heap.size 2 none) ∧ 
  (let w90 : World := w89.setCell (Addr.mk w9.heap.size 2 none) (Value.int .u64 r75_2)
  S10 w90 ∧ wrOk w90 (Addr.mk w74.heap.size 0 none) ∧ 
  (let w91 : World := w90.setCell (Addr.mk w74.heap.size 0 none) (Value.bool r87_0)
  wrOk w91 (Addr.mk w74.heap.size 1 none) ∧ 
  (let w92 : World := w91.setCell (Addr.mk w74.heap.size 1 none) (Value.int .u64 r87_1)
  wrOk w92 (Addr.mk w74.heap.size 2 none) ∧ 
  (let w93 : World := w92.setCell (Addr.mk w74.heap.size 2 none) (Value.int .u64 r87_2)
  ratio_Cmp_k0 (Addr.mk w.heap.size 0 none) (Addr.mk w1.heap.size 0 none) (Addr.mk w9.heap.size 0 none) (Addr.mk w74.heap.size 0 none) K w93))))))) w85)) w73)
    ∧ (let w94 : World := w73.alloc (Obj.cells #[(Value.bool false), (Value.int .u64 (0 : Int)), (Value.int .u64 (0 : Int))] 61)
  S10 w94 ∧ ratio_of_sh x11 x12 (fun (r96_0 : Bool) (r96_1 : Int) (r96_2 : Int) (w95 : World) => S10 w95 ∧ ratio_of_sh x13 x14 (fun (r98_0 : Bool) (r98_1 : Int) (r98_2 : Int) (w97 : World) => S10 w97 ∧ wrOk w97 (Addr.mk w9.heap.size 0 none) ∧ 
  (let w99 : World := w97.setCell (Addr.mk w9.heap.size 0 none) (Value.bool r96_0)
  wrOk w99 (Addr.mk w9.heap.size 1 none) ∧ 
  (let w100 : World := w99.setCell (Addr.mk w9.heap.size 1 none) (Value.int .u64 r96_1)
  wrOk w100 (Addr.mk w9.heap.size 2 none) ∧ 
  (let w101 : World := w100.setCell (Addr.mk w9.heap.size 2 none) (Value.int .u64 r96_2)
  S10 w101 ∧ wrOk w101 (Addr.mk w73.heap.size 0 none) ∧ 
  (let w102 : World := w101.setCell (Addr.mk w73.heap.size 0 none) (Value.bool r98_0)
  wrOk w102 (Addr.mk w73.heap.size 1 none) ∧ 
  (let w103 : World := w102.setCell (Addr.mk w73.heap.size 1 none) (Value.int .u64 r98_1)
  wrOk w103 (Addr.mk w73.heap.size 2 none) ∧ 
  (let w104 : World := w103.setCell (Addr.mk w73.heap.size 2 none) (Value.int .u64 r98_2)
  ratio_Cmp_k0 (Addr.mk w.heap.size 0 none) (Addr.mk w1.heap.size 0 none) (Addr.mk w9.heap.size 0 none) (Addr.mk w73.heap.size 0 none) K w104))))))) w95) w94))
    ∧ (let w105 : World := w9.alloc (Obj.cells #[(Value.bool false), (Value.int .u64 (0 : Int)), (Value.int .u64 (0 : Int))] 61)
  S10 w105 ∧ (ratio_of_sh x11 x12 (fun (r107_0 : Bool) (r107_1 : Int) (r107_2 : Int) (w106 : World) => S10 w106 ∧ (ratio_of_sh x13 x14 (fun (r109_0 : Bool) (r109_1 : Int) (r109_2 : Int) (w108 : World) => S10 w108 ∧ let w110 : World := w108.alloc (Obj.cells #[(Value.bool false), (Value.int .u64 (0 : Int)), (Value.int .u64 (0 : Int))] 61)
  S10 w110 ∧ wrOk w110 (Addr.mk w108.heap.size 0 none) ∧ 
  (let w111 : World := w110.setCell (Addr.mk w108.heap.size 0 none) (Value.bool r107_0)
  wrOk w111 (Addr.mk w108.heap.size 1 none) ∧ 
  (let w112 : World := w111.setCell (Addr.mk w108.heap.size 1 none) (Value.int .u64 r107_1)
  wrOk w112 (Addr.mk w108.heap.size 2 none) ∧ 
  (let w113 : World := w112.setCell (Addr.mk w108.heap.size 2 none) (Value.int .u64 r107_2)
  S10 w113 ∧ wrOk w113 (Addr.mk w9.heap.size 0 none) ∧ 
  (let w114 : World := w113.setCell (Addr.mk w9.heap.size 0 none) (Value.bool r109_0)
  wrOk w114 (Addr.mk w9.heap.size 1 none) ∧ 
  (let w115 : World := w114.setCell (Addr.mk w9.heap.size 1 none) (Value.int .u64 r109_1)
  wrOk w115 (Addr.mk w9.heap.size 2 none) ∧ 
  (let w116 : World := w115.setCell (Addr.mk w9.heap.size 2 none) (Value.int .u64 r109_2)
  ratio_Cmp_k0 (Addr.mk w.heap.size 0 none) (Addr.mk w1.heap.size 0 none) (Addr.mk w108.heap.size 0 none) (Addr.mk w9.heap.size 0 none) K w116))))))) w106)
    ∧ (let w117 : World := w106.alloc (Obj.cells #[(Value.bool false), (Value.int .u64 (0 : Int)), (Value.int .u64 (0 : Int))] 61)
  S10 w117 ∧ ratio_of_sh x13 x14 (fun (r119_0 : Bool) (r119_1 : Int) (r119_2 : Int) (w118 : World) => S10 w118 ∧ wrOk w118 (Addr.mk w106.heap.size 0 none) ∧ 
  (let w120 : World := w118.setCell (Addr.mk w106.heap.size 0 none) (Value.bool r107_0)
  wrOk w120 (Addr.mk w106.heap.size 1 none) ∧ 
  (let w121 : World := w120.setCell (Addr.mk w106.heap.size 1 none) (Value.int .u64 r107_1)
  wrOk w121 (Addr.mk w106.heap.size 2 none) ∧ 
  (let w122 : World := w121.setCell (Addr.mk w106.heap.size 2 none) (Value.int .u64 r107_2)
  S10 w122 ∧ wrOk w122 (Addr.mk w9.heap.size 0 none) ∧ 
  (let w123 : World := w122.setCell (Addr.mk w9.heap.size 0 none) (Value.bool r119_0)
  wrOk w123 (Addr.mk w9.heap.size 1 none) ∧ 
  (let w124 : World := w123.setCell (Addr.mk w9.heap.size 1 none) (Value.int .u64 r119_1)
  wrOk w124 (Addr.mk w9.heap.size 2 none) ∧ 
  (let w125 : World := w124.setCell (Addr.mk w9.heap.size 2 none) (Value.int .u64 r119_2)
  ratio_Cmp_k0 (Addr.mk w.heap.size 0 none) (Addr.mk w1.heap.size 0 none) (Addr.mk w106.heap.size 0 none) (Addr.mk w9.heap.size 0 none) K w125))))))) w117)) w105)
    ∧ (let w126 : World := w105.alloc (Obj.cells #[(Value.bool false), (Value.int .u64 (0 : Int)), (Value.int .u64 (0 : Int))] 61)
  S10 w126 ∧ ratio_of_sh x11 x12 (fun (r128_0 : Bool) (r128_1 : Int) (r128_2 : Int) (w127 : World) => S10 w127 ∧ ratio_of_sh x13 x14 (fun (r130_0 : Bool) (r130_1 : Int) (r130_2 : Int) (w129 : World) => S10 w129 ∧ wrOk w129 (Addr.mk w105.heap.size 0 none) ∧ 
  (let w131 : World := w129.setCell (Addr.mk w105.heap.size 0 none) (Value.bool r128_0)
  wrOk w131 (Addr.mk w105.heap.size 1 none) ∧ 
  (let w132 : World := w131.setCell (Addr.mk w105.heap.size 1 none) (Value.int .u64 r128_1)
  wrOk w132 (Addr.mk w105.heap.size 2 none) ∧ 
  (let w133 : World := w132.setCell (Addr.mk w105.heap.size 2 none) (Value.int .u64 r128_2)
  S10 w133 ∧ wrOk w133 (Addr.mk w9.heap.size 0 none) ∧ 
  (let w134 : World := w133.setCell (Addr.mk w9.heap.size 0 none) (Value.bool r130_0)
  wrOk w134 (Addr.mk w9.heap.size 1 none) ∧ 
  (let w135 : World := w134.setCell (Addr.mk w9.heap.size 1 none) (Value.int .u64 r130_1)
  wrOk w135 (Addr.mk w9.heap.size 2 none) ∧ 
  (let w136 : World := w135.setCell (Addr.mk w9.heap.size 2 none) (Value.int .u64 r130_2)
  ratio_Cmp_k0 (Addr.mk w.heap.size 0 none) (Addr.mk w1.heap.size 0 none) (Addr.mk w105.heap.size 0 none) (Addr.mk w9.heap.size 0 none) K w136))))))) w127) w126)))) w2

structure ratio_Cmp_sh (a_0_0 : Int) (a_0_1 : Int) (b_1_0 : Int) (b_1_1 : Int) (K : Int → World → Prop) (w : World) : Prop where
  out : ratio_Cmp_sd a_0_0 a_0_1 b_1_0 b_1_1 K w

def ratio_Cmp_P0 (Kv : VW) (ρ : Rho) (vs : List Value) (w : World) : Prop :=
  match ρ, vs with
  | _, [.pointer (some a_2), .pointer (some b_3), .pointer (some x_5), .pointer (some y_6)] => ratio_Cmp_k0 a_2 b_3 x_5 y_6  (fun (r0 : Int) (w' : World) => Kv (Value.int .i64 r0) w') w
  | _, _ => False

noncomputable def ratio_Cmp_S : Pw.Spec := fun vs w Kv =>
  match vs with
  | [.agg ⟨[.int .i64 a_0_0, .int .i64 a_0_1]⟩, .agg ⟨[.int .i64 b_1_0, .int .i64 b_1_1]⟩] => ratio_Cmp_sh a_0_0 a_0_1 b_1_0 b_1_1 (fun (r0 : Int) (w' : World) => Kv (Value.int .i64 r0) w') w
  | _ => False

noncomputable def ratio_Cmp_E : Pw.Env := [(46, ratio_both_S), (47, ratio_of_S), (48, cmp_Compare_S), (49, ratio_compare_S), (50, ratio_product_S)]

noncomputable def ratio_Cmp_C : Code := (Tryz.f22.body).getD .skip

noncomputable def ratio_Cmp_A (Kv : VW) : Pw.A :=
  (A.seq (A.reg (RA.run (RA.run (RA.run RA.done))))
   (A.seq (A.seq (A.reg (RA.run (RA.run (RA.run (RA.run RA.done)))))
   (A.cond (A.seq (A.reg (RA.run RA.done))
   A.leaf)
   A.leaf))
   (A.seq (A.drw (DA.pur 0 (DA.pur 2 (DA.thr 1 (DA.thr 3 (DA.two 4 (DA.eff 5 (DA.eff 6 (DA.eff 7 DA.done))) 5 (DA.eff 4 (DA.eff 6 (DA.eff 7 DA.done)))) 4 (DA.two 3 (DA.eff 5 (DA.eff 6 (DA.eff 7 DA.done))) 5 (DA.eff 3 (DA.eff 6 (DA.eff 7 DA.done)))) 5 (DA.two 3 (DA.eff 4 (DA.eff 6 (DA.eff 7 DA.done))) 4 (DA.eff 3 (DA.eff 6 (DA.eff 7 DA.done))))) 4 (DA.two 1 (DA.two 3 (DA.eff 5 (DA.eff 6 (DA.eff 7 DA.done))) 5 (DA.eff 3 (DA.eff 6 (DA.eff 7 DA.done)))) 5 (DA.eff 1 (DA.eff 3 (DA.eff 6 (DA.eff 7 DA.done))))) 5 (DA.two 1 (DA.two 3 (DA.eff 4 (DA.eff 6 (DA.eff 7 DA.done))) 4 (DA.eff 3 (DA.eff 6 (DA.eff 7 DA.done)))) 4 (DA.eff 1 (DA.eff 3 (DA.eff 6 (DA.eff 7 DA.done)))))))))
   (A.cut [2, 3, 5, 6] (ratio_Cmp_P0 Kv) (A.seq (A.seq (A.reg (RA.run (RA.run (RA.run (RA.run (RA.run RA.done))))))
   (A.cond (A.seq (A.reg (RA.run (RA.run (RA.run (RA.run (RA.run (RA.run RA.done)))))))
   A.leaf)
   A.leaf))
   (A.seq (A.drw (DA.pur 0 (DA.pur 1 (DA.pur 2 (DA.pur 3 (DA.pur 5 (DA.pur 6 (DA.pur 7 (DA.pur 8 (DA.eff 4 (DA.eff 9 (DA.eff 10 (DA.pur 11 DA.done)))))))))))))
   (A.seq (A.seq (A.reg (RA.run (RA.run RA.done)))
   (A.cond (A.seq (A.reg (RA.run (RA.run (RA.run RA.done))))
   A.leaf)
   A.leaf))
   (A.seq (A.reg (RA.run (RA.run RA.done)))
   A.leaf))))))))

noncomputable def ratio_Cmp_O (Kv : VW) : List Ob := (obs Tryz.prog ratio_Cmp_E 42 (ratio_Cmp_A Kv) ratio_Cmp_C (fun _ => retQ Tryz.prog Tryz.f22.results Kv))

theorem ratio_Cmp_e (Kv : VW) (a_0_0 : Int) (a_0_1 : Int) (b_1_0 : Int) (b_1_1 : Int) (w : World) : ratio_Cmp_sd a_0_0 a_0_1 b_1_0 b_1_1 (fun (r0 : Int) (w' : World) => Kv (Value.int .i64 r0) w') w = W Tryz.prog ratio_Cmp_E 42 (ratio_Cmp_A Kv) ratio_Cmp_C [] (retQ Tryz.prog Tryz.f22.results Kv) [] (startS [(Value.agg #[(Value.int .i64 a_0_0), (Value.int .i64 a_0_1)]), (Value.agg #[(Value.int .i64 b_1_0), (Value.int .i64 b_1_1)])]) w := by kernel_rfl

theorem ratio_Cmp_e0 (Kv : VW) (ρ : Rho) (a_2 : Addr) (b_3 : Addr) (x_5 : Addr) (y_6 : Addr) (w : World) : ratio_Cmp_k0d a_2 b_3 x_5 y_6  (fun (r0 : Int) (w' : World) => Kv (Value.int .i64 r0) w') w = goalAt Tryz.prog ratio_Cmp_E 42 (ratio_Cmp_O Kv) 0 (ρ) [(Value.pointer (some a_2)), (Value.pointer (some b_3)), (Value.pointer (some x_5)), (Value.pointer (some y_6))] w := by kernel_rfl

theorem ratio_Cmp_q0 (Kv : VW) (ρ : Rho) (vs : List Value) (w : World) : labAt (ratio_Cmp_O Kv) 0 ρ vs w = ratio_Cmp_P0 Kv ρ vs w := by kernel_rfl

theorem ratio_Cmp_h0 (Kv : VW) : holdsAt Tryz.prog ratio_Cmp_E 42 (ratio_Cmp_O Kv) 0 := holdsAt_cut (.inl (by kernel_rfl)) (fun ρ vs w h => by
  rw [ratio_Cmp_q0] at h
  unfold ratio_Cmp_P0 at h
  split at h
  · rw [← ratio_Cmp_e0]; exact h.out
  · exact h.elim)

theorem ratio_Cmp_n (Kv : VW) : obAt (ratio_Cmp_O Kv) 1 = none := by kernel_rfl

theorem ratio_Cmp_h (Kv : VW) : ∀ k, holdsAt Tryz.prog ratio_Cmp_E 42 (ratio_Cmp_O Kv) k := fun k => match k with
  | 0 => ratio_Cmp_h0 Kv
  | _k + 1 => holdsAt_ge (ratio_Cmp_n Kv) (Nat.le_add_left _ _)

theorem ratio_Cmp_ok : Sound Tryz.prog 22 ratio_Cmp_S := ⟨Tryz.call22, fun vs w Kv h => by
  unfold ratio_Cmp_S at h
  split at h
  · have h := h.out
    rw [ratio_Cmp_e] at h
    exact calls_sound (Γ := ratio_Cmp_E) progMixed ⟨.inl ratio_both_ok, .inl ratio_of_ok, .inl cmp_Compare_ok, .inl ratio_compare_ok, .inl ratio_product_ok, trivial⟩ Tryz.func22 (code := ratio_Cmp_C) (by kernel_rfl) (ratio_Cmp_A Kv) Kv (holds_all (ratio_Cmp_h Kv)) (Nat.le_of_ble_eq_true (by kernel_rfl)) h
  · exact h.elim⟩

/-! ratio_Floor -/
def ratio_Floor_sd (a_0_0 : Int) (a_0_1 : Int) (K : Int → World → Prop) (w : World) : Prop :=
  let w1 : World := w.alloc (Obj.cells #[(Value.int .i64 a_0_0), (Value.int .i64 a_0_1)] 26)
  ∃ x2 : Int, w1.cell? (Addr.mk w.heap.size 0 none) = some (Value.int .i64 x2) ∧ ∃ x3 : Int, w1.cell? (Addr.mk w.heap.size 1 none) = some (Value.int .i64 x3) ∧ ratio_Right_sh x2 x3 (fun (r5 : Bool) (w4 : World) => cnd (!r5)
    (K (0 : Int) w4)
    (∃ x6 : Int, w4.cell? (Addr.mk w.heap.size 0 none) = some (Value.int .i64 x6) ∧ ∃ x7 : Int, w4.cell? (Addr.mk w.heap.size 1 none) = some (Value.int .i64 x7) ∧ x7 ≠ 0 ∧ inR .i64 (Int.tdiv x6 x7) ∧ ∃ x8 : Int, w4.cell? (Addr.mk w.heap.size 0 none) = some (Value.int .i64 x8) ∧ ∃ x9 : Int, w4.cell? (Addr.mk w.heap.size 1 none) = some (Value.int .i64 x9) ∧ x9 ≠ 0 ∧ cnd (decide ((Int.tmod x8 x9) < (0 : Int)))
    (inR .i64 ((Int.tdiv x6 x7) - (1 : Int)) ∧ K ((Int.tdiv x6 x7) - (1 : Int)) w4)
    (K (Int.tdiv x6 x7) w4))) w1

structure ratio_Floor_sh (a_0_0 : Int) (a_0_1 : Int) (K : Int → World → Prop) (w : World) : Prop where
  out : ratio_Floor_sd a_0_0 a_0_1 K w

noncomputable def ratio_Floor_S : Pw.Spec := fun vs w Kv =>
  match vs with
  | [.agg ⟨[.int .i64 a_0_0, .int .i64 a_0_1]⟩] => ratio_Floor_sh a_0_0 a_0_1 (fun (r0 : Int) (w' : World) => Kv (Value.int .i64 r0) w') w
  | _ => False

noncomputable def ratio_Floor_E : Pw.Env := [(25, ratio_Right_S)]

noncomputable def ratio_Floor_C : Code := (Tryz.f21.body).getD .skip

noncomputable def ratio_Floor_A (_Kv : VW) : Pw.A :=
  (A.seq (A.reg (RA.run (RA.run RA.done)))
   (A.seq (A.seq (A.reg (RA.run (RA.run (RA.run RA.done))))
   (A.cond (A.seq (A.reg (RA.run RA.done))
   A.leaf)
   A.leaf))
   (A.seq (A.reg (RA.run (RA.run (RA.run (RA.run (RA.run (RA.run RA.done)))))))
   (A.seq (A.seq (A.reg (RA.run (RA.run (RA.run (RA.run (RA.run (RA.run RA.done)))))))
   (A.cond (A.reg (RA.run (RA.run (RA.run RA.done))))
   A.leaf))
   (A.seq (A.reg (RA.run (RA.run RA.done)))
   A.leaf)))))

noncomputable def ratio_Floor_O (Kv : VW) : List Ob := (obs Tryz.prog ratio_Floor_E 21 (ratio_Floor_A Kv) ratio_Floor_C (fun _ => retQ Tryz.prog Tryz.f21.results Kv))

theorem ratio_Floor_e (Kv : VW) (a_0_0 : Int) (a_0_1 : Int) (w : World) : ratio_Floor_sd a_0_0 a_0_1 (fun (r0 : Int) (w' : World) => Kv (Value.int .i64 r0) w') w = W Tryz.prog ratio_Floor_E 21 (ratio_Floor_A Kv) ratio_Floor_C [] (retQ Tryz.prog Tryz.f21.results Kv) [] (startS [(Value.agg #[(Value.int .i64 a_0_0), (Value.int .i64 a_0_1)])]) w := by kernel_rfl

theorem ratio_Floor_n (Kv : VW) : obAt (ratio_Floor_O Kv) 0 = none := by kernel_rfl

theorem ratio_Floor_h (Kv : VW) : ∀ k, holdsAt Tryz.prog ratio_Floor_E 21 (ratio_Floor_O Kv) k := fun _ => holdsAt_ge (ratio_Floor_n Kv) (Nat.zero_le _)

theorem ratio_Floor_ok : Sound Tryz.prog 21 ratio_Floor_S := ⟨Tryz.call21, fun vs w Kv h => by
  unfold ratio_Floor_S at h
  split at h
  · have h := h.out
    rw [ratio_Floor_e] at h
    exact calls_sound (Γ := ratio_Floor_E) progMixed ⟨.inl ratio_Right_ok, trivial⟩ Tryz.func21 (code := ratio_Floor_C) (by kernel_rfl) (ratio_Floor_A Kv) Kv (holds_all (ratio_Floor_h Kv)) (Nat.le_of_ble_eq_true (by kernel_rfl)) h
  · exact h.elim⟩

/-! ratio_Sub_1 -/
def ratio_Sub_1_sd (x_0_0 : Bool) (x_0_1 : Int) (x_0_2 : Int) (y_1_0 : Bool) (y_1_1 : Int) (y_1_2 : Int) (K : Int → Int → Bool → World → Prop) (w : World) : Prop :=
  let w1 : World := w.alloc (Obj.cells #[(Value.bool x_0_0), (Value.int .u64 x_0_1), (Value.int .u64 x_0_2)] 61)
  let w2 : World := w1.alloc (Obj.cells #[(Value.bool y_1_0), (Value.int .u64 y_1_1), (Value.int .u64 y_1_2)] 61)
  let w3 : World := w2.alloc (Obj.cells #[(Value.int .i64 (0 : Int)), (Value.int .i64 (0 : Int))] 26)
  ∃ x4 : Bool, w3.cell? (Addr.mk w1.heap.size 0 none) = some (Value.bool x4) ∧ wrOk w3 (Addr.mk w1.heap.size 0 none) ∧ 
  (let w5 : World := w3.setCell (Addr.mk w1.heap.size 0 none) (Value.bool (!x4))
  ∃ x6 : Bool, w5.cell? (Addr.mk w.heap.size 0 none) = some (Value.bool x6) ∧ ∃ x7 : Int, w5.cell? (Addr.mk w.heap.size 1 none) = some (Value.int .u64 x7) ∧ ∃ x8 : Int, w5.cell? (Addr.mk w.heap.size 2 none) = some (Value.int .u64 x8) ∧ ∃ x9 : Bool, w5.cell? (Addr.mk w1.heap.size 0 none) = some (Value.bool x9) ∧ ∃ x10 : Int, w5.cell? (Addr.mk w1.heap.size 1 none) = some (Value.int .u64 x10) ∧ ∃ x11 : Int, w5.cell? (Addr.mk w1.heap.size 2 none) = some (Value.int .u64 x11) ∧ ratio_sum_sh x6 x7 x8 x9 x10 x11 (fun (r13_0 : Int) (r13_1 : Int) (r14 : Bool) (w12 : World) => wrOk w12 (Addr.mk w2.heap.size 0 none) ∧ 
  (let w15 : World := w12.setCell (Addr.mk w2.heap.size 0 none) (Value.int .i64 r13_0)
  wrOk w15 (Addr.mk w2.heap.size 1 none) ∧ 
  (let w16 : World := w15.setCell (Addr.mk w2.heap.size 1 none) (Value.int .i64 r13_1)
  ∃ x17 : Int, w16.cell? (Addr.mk w2.heap.size 0 none) = some (Value.int .i64 x17) ∧ ∃ x18 : Int, w16.cell? (Addr.mk w2.heap.size 1 none) = some (Value.int .i64 x18) ∧ K x17 x18 r14 w16))) w5)

structure ratio_Sub_1_sh (x_0_0 : Bool) (x_0_1 : Int) (x_0_2 : Int) (y_1_0 : Bool) (y_1_1 : Int) (y_1_2 : Int) (K : Int → Int → Bool → World → Prop) (w : World) : Prop where
  out : ratio_Sub_1_sd x_0_0 x_0_1 x_0_2 y_1_0 y_1_1 y_1_2 K w

noncomputable def ratio_Sub_1_S : Pw.Spec := fun vs w Kv =>
  match vs with
  | [.agg ⟨[.bool x_0_0, .int .u64 x_0_1, .int .u64 x_0_2]⟩, .agg ⟨[.bool y_1_0, .int .u64 y_1_1, .int .u64 y_1_2]⟩] => ratio_Sub_1_sh x_0_0 x_0_1 x_0_2 y_1_0 y_1_1 y_1_2 (fun (r0_0 : Int) (r0_1 : Int) (r1 : Bool) (w' : World) => Kv (Value.tuple #[(Value.agg #[(Value.int .i64 r0_0), (Value.int .i64 r0_1)]), (Value.bool r1)]) w') w
  | _ => False

noncomputable def ratio_Sub_1_E : Pw.Env := [(43, ratio_sum_S)]

noncomputable def ratio_Sub_1_C : Code := (Tryz.f65.body).getD .skip

noncomputable def ratio_Sub_1_A (_Kv : VW) : Pw.A :=
  (A.seq (A.reg (RA.run (RA.run (RA.run (RA.run RA.done)))))
   (A.seq (A.reg (RA.run (RA.run (RA.run (RA.run (RA.run RA.done))))))
   (A.seq (A.reg (RA.run (RA.run (RA.run (RA.run (RA.run (RA.run (RA.run RA.done))))))))
   A.leaf)))

noncomputable def ratio_Sub_1_O (Kv : VW) : List Ob := (obs Tryz.prog ratio_Sub_1_E 15 (ratio_Sub_1_A Kv) ratio_Sub_1_C (fun _ => retQ Tryz.prog Tryz.f65.results Kv))

theorem ratio_Sub_1_e (Kv : VW) (x_0_0 : Bool) (x_0_1 : Int) (x_0_2 : Int) (y_1_0 : Bool) (y_1_1 : Int) (y_1_2 : Int) (w : World) : ratio_Sub_1_sd x_0_0 x_0_1 x_0_2 y_1_0 y_1_1 y_1_2 (fun (r0_0 : Int) (r0_1 : Int) (r1 : Bool) (w' : World) => Kv (Value.tuple #[(Value.agg #[(Value.int .i64 r0_0), (Value.int .i64 r0_1)]), (Value.bool r1)]) w') w = W Tryz.prog ratio_Sub_1_E 15 (ratio_Sub_1_A Kv) ratio_Sub_1_C [] (retQ Tryz.prog Tryz.f65.results Kv) [] (startS [(Value.agg #[(Value.bool x_0_0), (Value.int .u64 x_0_1), (Value.int .u64 x_0_2)]), (Value.agg #[(Value.bool y_1_0), (Value.int .u64 y_1_1), (Value.int .u64 y_1_2)])]) w := by kernel_rfl

theorem ratio_Sub_1_n (Kv : VW) : obAt (ratio_Sub_1_O Kv) 0 = none := by kernel_rfl

theorem ratio_Sub_1_h (Kv : VW) : ∀ k, holdsAt Tryz.prog ratio_Sub_1_E 15 (ratio_Sub_1_O Kv) k := fun _ => holdsAt_ge (ratio_Sub_1_n Kv) (Nat.zero_le _)

theorem ratio_Sub_1_ok : Sound Tryz.prog 65 ratio_Sub_1_S := ⟨Tryz.call65, fun vs w Kv h => by
  unfold ratio_Sub_1_S at h
  split at h
  · have h := h.out
    rw [ratio_Sub_1_e] at h
    exact calls_sound (Γ := ratio_Sub_1_E) progMixed ⟨.inl ratio_sum_ok, trivial⟩ Tryz.func65 (code := ratio_Sub_1_C) (by kernel_rfl) (ratio_Sub_1_A Kv) Kv (holds_all (ratio_Sub_1_h Kv)) (Nat.le_of_ble_eq_true (by kernel_rfl)) h
  · exact h.elim⟩

/-! ratio_Sub -/
def ratio_Sub_sd (a_0_0 : Int) (a_0_1 : Int) (b_1_0 : Int) (b_1_1 : Int) (K : Int → Int → Bool → World → Prop) (w : World) : Prop :=
  let w1 : World := w.alloc (Obj.cells #[(Value.int .i64 a_0_0), (Value.int .i64 a_0_1)] 26)
  let w2 : World := w1.alloc (Obj.cells #[(Value.int .i64 b_1_0), (Value.int .i64 b_1_1)] 26)
  let w3 : World := w2.alloc (Obj.cells #[(Value.int .i64 (0 : Int)), (Value.int .i64 (0 : Int))] 26)
  ∃ x4 : Int, w3.cell? (Addr.mk w.heap.size 0 none) = some (Value.int .i64 x4) ∧ ∃ x5 : Int, w3.cell? (Addr.mk w.heap.size 1 none) = some (Value.int .i64 x5) ∧ ∃ x6 : Int, w3.cell? (Addr.mk w1.heap.size 0 none) = some (Value.int .i64 x6) ∧ ∃ x7 : Int, w3.cell? (Addr.mk w1.heap.size 1 none) = some (Value.int .i64 x7) ∧ ratio_checked_sh x4 x5 x6 x7 (Value.func (.func 65) #[] #[]) (fun (r9_0 : Int) (r9_1 : Int) (r10 : Bool) (w8 : World) => wrOk w8 (Addr.mk w2.heap.size 0 none) ∧ 
  (let w11 : World := w8.setCell (Addr.mk w2.heap.size 0 none) (Value.int .i64 r9_0)
  wrOk w11 (Addr.mk w2.heap.size 1 none) ∧ 
  (let w12 : World := w11.setCell (Addr.mk w2.heap.size 1 none) (Value.int .i64 r9_1)
  ∃ x13 : Int, w12.cell? (Addr.mk w2.heap.size 0 none) = some (Value.int .i64 x13) ∧ ∃ x14 : Int, w12.cell? (Addr.mk w2.heap.size 1 none) = some (Value.int .i64 x14) ∧ K x13 x14 r10 w12))) w3

structure ratio_Sub_sh (a_0_0 : Int) (a_0_1 : Int) (b_1_0 : Int) (b_1_1 : Int) (K : Int → Int → Bool → World → Prop) (w : World) : Prop where
  out : ratio_Sub_sd a_0_0 a_0_1 b_1_0 b_1_1 K w

noncomputable def ratio_Sub_S : Pw.Spec := fun vs w Kv =>
  match vs with
  | [.agg ⟨[.int .i64 a_0_0, .int .i64 a_0_1]⟩, .agg ⟨[.int .i64 b_1_0, .int .i64 b_1_1]⟩] => ratio_Sub_sh a_0_0 a_0_1 b_1_0 b_1_1 (fun (r0_0 : Int) (r0_1 : Int) (r1 : Bool) (w' : World) => Kv (Value.tuple #[(Value.agg #[(Value.int .i64 r0_0), (Value.int .i64 r0_1)]), (Value.bool r1)]) w') w
  | _ => False

noncomputable def ratio_Sub_E : Pw.Env := [(42, ratio_checked_S)]

noncomputable def ratio_Sub_C : Code := (Tryz.f33.body).getD .skip

noncomputable def ratio_Sub_A (_Kv : VW) : Pw.A :=
  (A.seq (A.reg (RA.run (RA.run (RA.run (RA.run RA.done)))))
   (A.seq (A.reg (RA.run (RA.run (RA.run (RA.run (RA.run (RA.run (RA.run RA.done))))))))
   A.leaf))

noncomputable def ratio_Sub_O (Kv : VW) : List Ob := (obs Tryz.prog ratio_Sub_E 11 (ratio_Sub_A Kv) ratio_Sub_C (fun _ => retQ Tryz.prog Tryz.f33.results Kv))

theorem ratio_Sub_e (Kv : VW) (a_0_0 : Int) (a_0_1 : Int) (b_1_0 : Int) (b_1_1 : Int) (w : World) : ratio_Sub_sd a_0_0 a_0_1 b_1_0 b_1_1 (fun (r0_0 : Int) (r0_1 : Int) (r1 : Bool) (w' : World) => Kv (Value.tuple #[(Value.agg #[(Value.int .i64 r0_0), (Value.int .i64 r0_1)]), (Value.bool r1)]) w') w = W Tryz.prog ratio_Sub_E 11 (ratio_Sub_A Kv) ratio_Sub_C [] (retQ Tryz.prog Tryz.f33.results Kv) [] (startS [(Value.agg #[(Value.int .i64 a_0_0), (Value.int .i64 a_0_1)]), (Value.agg #[(Value.int .i64 b_1_0), (Value.int .i64 b_1_1)])]) w := by kernel_rfl

theorem ratio_Sub_n (Kv : VW) : obAt (ratio_Sub_O Kv) 0 = none := by kernel_rfl

theorem ratio_Sub_h (Kv : VW) : ∀ k, holdsAt Tryz.prog ratio_Sub_E 11 (ratio_Sub_O Kv) k := fun _ => holdsAt_ge (ratio_Sub_n Kv) (Nat.zero_le _)

theorem ratio_Sub_ok : Sound Tryz.prog 33 ratio_Sub_S := ⟨Tryz.call33, fun vs w Kv h => by
  unfold ratio_Sub_S at h
  split at h
  · have h := h.out
    rw [ratio_Sub_e] at h
    exact calls_sound (Γ := ratio_Sub_E) progMixed ⟨.inl ratio_checked_ok, trivial⟩ Tryz.func33 (code := ratio_Sub_C) (by kernel_rfl) (ratio_Sub_A Kv) Kv (holds_all (ratio_Sub_h Kv)) (Nat.le_of_ble_eq_true (by kernel_rfl)) h
  · exact h.elim⟩

end Go.Proofs.YtfclokkfnkieoaaGreatDoor
