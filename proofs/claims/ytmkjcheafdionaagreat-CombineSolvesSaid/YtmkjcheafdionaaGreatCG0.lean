/- The bodies' formulas, by program. -/
import Derived.Test.YtmkjcheafdionaaGreatProg
import Derived.KernelRfl
import Derived.Test.YtmkjcheafdionaaGreatPwX
set_option maxRecDepth 20000
namespace Pw
open Go
abbrev T0 := Bool -> World -> Prop
abbrev T1 := Int -> World -> Prop
abbrev T2 := Int -> Int -> World -> Prop
abbrev T3 := Int -> Int -> Bool -> World -> Prop
abbrev T4 := Sl -> World -> Prop
abbrev T5 := Int -> Bool -> World -> Prop
abbrev T6 := Sl -> Sl -> Sl -> Int -> Int -> World -> Prop
abbrev T7 := Sl -> Int -> Int -> Sl -> Int -> World -> Prop
abbrev T8 := Int -> Int -> Int -> Bool -> World -> Prop
abbrev T9 := World -> Prop
abbrev T10 := Bool -> Int -> Int -> World -> Prop
abbrev T11 := Int -> Int -> Int -> World -> Prop
end Pw
namespace Pw
open Go
def kB (Kv : VW) : Bool -> World -> Prop := fun r0 w' => Kv (Value.bool r0) w'
def kI (Kv : VW) : Int -> World -> Prop := fun r0 w' => Kv (Value.int .i64 r0) w'
def kR (Kv : VW) : Int -> Int -> Bool -> World -> Prop := fun r0_0 r0_1 r1 w' => Kv (Value.tuple #[(Value.agg #[(Value.int .i64 r0_0), (Value.int .i64 r0_1)]), (Value.bool r1)]) w'
def kJ (Kv : VW) : Int -> Bool -> World -> Prop := fun r0 r1 w' => Kv (Value.tuple #[(Value.int .i64 r0), (Value.bool r1)]) w'
def kS (Kv : VW) : Sl -> World -> Prop := fun r0 w' => Kv (Value.slice r0.p r0.l r0.c) w'
def kP (Kv : VW) : Sl -> Sl -> Sl -> Int -> Int -> World -> Prop := fun r0_0 r0_1 r0_2 r0_3 r0_4 w' => Kv (Value.agg #[(Value.slice r0_0.p r0_0.l r0_0.c), (Value.slice r0_1.p r0_1.l r0_1.c), (Value.slice r0_2.p r0_2.l r0_2.c), (Value.int .i64 r0_3), (Value.int .i64 r0_4)]) w'
end Pw
namespace Pw
open Go
def rn : Nat -> RA -> RA
  | 0, x => x
  | n + 1, x => RA.run (rn n x)
def sk : Nat -> RA -> RA
  | 0, x => x
  | n + 1, x => RA.skp (sk n x)
end Pw
namespace Go.Proofs.YtmkjcheafdionaaGreat
open Go Pw
theorem progMixed : Tryz.prog.follows .mixedOrders = true := by kernel_rfl
/-! bits_Mul64 -/
def z1m_sd (x_0 y_1 : Int) (K : Pw.T2) (w : World) : Prop :=
  0 <= (32 : Int) /\ 0 <= (32 : Int) /\ 0 <= (32 : Int) /\ 0 <= (32 : Int) /\ 0 <= (32 : Int) /\ K (IntKind.wrap .u64 ((IntKind.wrap .u64 ((IntKind.wrap .u64 ((Int.fdiv x_0 (2 ^ (min 32 (IntKind.bits .u64)))) * (Int.fdiv y_1 (2 ^ (min 32 (IntKind.bits .u64)))))) + (Int.fdiv (IntKind.wrap .u64 ((IntKind.wrap .u64 ((Int.fdiv x_0 (2 ^ (min 32 (IntKind.bits .u64)))) * (IntKind.wrap .u64 (((BitVec.ofInt (IntKind.bits .u64) y_1 &&& BitVec.ofInt (IntKind.bits .u64) (4294967295 : Int))).toNat : Int)))) + (Int.fdiv (IntKind.wrap .u64 ((IntKind.wrap .u64 (((BitVec.ofInt (IntKind.bits .u64) x_0 &&& BitVec.ofInt (IntKind.bits .u64) (4294967295 : Int))).toNat : Int)) * (IntKind.wrap .u64 (((BitVec.ofInt (IntKind.bits .u64) y_1 &&& BitVec.ofInt (IntKind.bits .u64) (4294967295 : Int))).toNat : Int)))) (2 ^ (min 32 (IntKind.bits .u64)))))) (2 ^ (min 32 (IntKind.bits .u64)))))) + (Int.fdiv (IntKind.wrap .u64 ((IntKind.wrap .u64 (((BitVec.ofInt (IntKind.bits .u64) (IntKind.wrap .u64 ((IntKind.wrap .u64 ((Int.fdiv x_0 (2 ^ (min 32 (IntKind.bits .u64)))) * (IntKind.wrap .u64 (((BitVec.ofInt (IntKind.bits .u64) y_1 &&& BitVec.ofInt (IntKind.bits .u64) (4294967295 : Int))).toNat : Int)))) + (Int.fdiv (IntKind.wrap .u64 ((IntKind.wrap .u64 (((BitVec.ofInt (IntKind.bits .u64) x_0 &&& BitVec.ofInt (IntKind.bits .u64) (4294967295 : Int))).toNat : Int)) * (IntKind.wrap .u64 (((BitVec.ofInt (IntKind.bits .u64) y_1 &&& BitVec.ofInt (IntKind.bits .u64) (4294967295 : Int))).toNat : Int)))) (2 ^ (min 32 (IntKind.bits .u64)))))) &&& BitVec.ofInt (IntKind.bits .u64) (4294967295 : Int))).toNat : Int)) + (IntKind.wrap .u64 ((IntKind.wrap .u64 (((BitVec.ofInt (IntKind.bits .u64) x_0 &&& BitVec.ofInt (IntKind.bits .u64) (4294967295 : Int))).toNat : Int)) * (Int.fdiv y_1 (2 ^ (min 32 (IntKind.bits .u64)))))))) (2 ^ (min 32 (IntKind.bits .u64)))))) (IntKind.wrap .u64 (x_0 * y_1)) w
structure z1m_sh (x_0 y_1 : Int) (K : Pw.T2) (w : World) : Prop where
  out : z1m_sd x_0 y_1 K w
noncomputable def z1m_S : Pw.Spec := fun vs w Kv =>
  match vs with
  | [.int .u64 x_0, .int .u64 y_1] => z1m_sh x_0 y_1 (fun r0 r1 w' => Kv (Value.tuple #[(Value.int .u64 r0), (Value.int .u64 r1)]) w') w
  | _ => False
noncomputable def z1m_E : Pw.Env := []
noncomputable def z1m_C : Code := (Tryz.f80.body).getD .skip
noncomputable def z1m_A (_Kv : VW) : Pw.A :=
  (A.seq (A.reg (Pw.rn 2 RA.done))
   (A.seq (A.reg (Pw.rn 3 RA.done))
   (A.seq (A.reg (Pw.rn 3 RA.done))
   (A.seq (A.reg (Pw.rn 3 RA.done))
   (A.seq (A.reg (Pw.rn 3 RA.done))
   (A.seq (A.reg (Pw.rn 2 (RA.raw (RA.run RA.done))))
   (A.seq (A.reg (Pw.rn 2 (RA.raw (Pw.rn 2 (RA.raw (RA.run RA.done))))))
   (A.seq (A.reg (Pw.rn 3 RA.done))
   (A.seq (A.reg (Pw.rn 3 RA.done))
   (A.seq (A.reg (Pw.rn 3 (RA.raw (RA.raw (RA.run RA.done)))))
   (A.seq (A.reg (Pw.rn 2 (RA.raw (RA.run (RA.raw (Pw.rn 2 (RA.raw (RA.run RA.done))))))))
   (A.seq (A.reg (Pw.rn 2 (RA.raw (RA.run RA.done))))
   A.leaf))))))))))))
noncomputable def z1m_O (Kv : VW) : List Ob := (obs Tryz.prog z1m_E 51 (z1m_A Kv) z1m_C (fun _ => retQ Tryz.prog Tryz.f80.results Kv))
theorem z1m_e (Kv : VW) (x_0 y_1 : Int) (w : World) : z1m_sd x_0 y_1 (fun r0 r1 w' => Kv (Value.tuple #[(Value.int .u64 r0), (Value.int .u64 r1)]) w') w = W Tryz.prog z1m_E 51 (z1m_A Kv) z1m_C [] (retQ Tryz.prog Tryz.f80.results Kv) [] (startS [(Value.int .u64 x_0), (Value.int .u64 y_1)]) w := by kernel_rfl
theorem z1m_n (Kv : VW) : obAt (z1m_O Kv) 0 = none := by kernel_rfl
theorem z1m_h (Kv : VW) : ∀ k, holdsAt Tryz.prog z1m_E 51 (z1m_O Kv) k := fun _ => holdsAt_ge (z1m_n Kv) (Nat.zero_le _)
theorem z1m_ok : Sound Tryz.prog 80 z1m_S := ⟨Tryz.call80, fun vs w Kv h => by
  unfold z1m_S at h
  split at h
  . have h := h.out
    rw [z1m_e] at h
    exact calls_sound (Γ := z1m_E) progMixed trivial Tryz.func80 (code := z1m_C) (by kernel_rfl) (z1m_A Kv) Kv (holds_all (z1m_h Kv)) (Nat.le_of_ble_eq_true (by kernel_rfl)) h
  . exact h.elim⟩
/-! ratio_Of -/
def z2u_sd (n_0 : Int) (K : Pw.T2) (w : World) : Prop :=
  let w1 := w.alloc (Obj.cells #[(Value.int .i64 0), (Value.int .i64 0)] 44)
  wrOk w1 (Addr.mk w.heap.size 0 none) /\ 
  (let w2 := w1.setCell (Addr.mk w.heap.size 0 none) (Value.int .i64 n_0)
  wrOk w2 (Addr.mk w.heap.size 1 none) /\ 
  (let w3 := w2.setCell (Addr.mk w.heap.size 1 none) (Value.int .i64 1)
  ∃ x4 : Int, w3.cell? (Addr.mk w.heap.size 0 none) = some (Value.int .i64 x4) /\ ∃ x5 : Int, w3.cell? (Addr.mk w.heap.size 1 none) = some (Value.int .i64 x5) /\ K x4 x5 w3))
structure z2u_sh (n_0 : Int) (K : Pw.T2) (w : World) : Prop where
  out : z2u_sd n_0 K w
noncomputable def z2u_S : Pw.Spec := fun vs w Kv =>
  match vs with
  | [.int .i64 n_0] => z2u_sh n_0 (fun r0_0 r0_1 w' => Kv (Value.agg #[(Value.int .i64 r0_0), (Value.int .i64 r0_1)]) w') w
  | _ => False
noncomputable def z2u_E : Pw.Env := []
noncomputable def z2u_C : Code := (Tryz.f56.body).getD .skip
noncomputable def z2u_A (_Kv : VW) : Pw.A :=
  (A.seq (A.reg (RA.run RA.done))
   (A.seq (A.reg (Pw.rn 3 RA.done))
   A.leaf))
noncomputable def z2u_O (Kv : VW) : List Ob := (obs Tryz.prog z2u_E 5 (z2u_A Kv) z2u_C (fun _ => retQ Tryz.prog Tryz.f56.results Kv))
theorem z2u_e (Kv : VW) (n_0 : Int) (w : World) : z2u_sd n_0 (fun r0_0 r0_1 w' => Kv (Value.agg #[(Value.int .i64 r0_0), (Value.int .i64 r0_1)]) w') w = W Tryz.prog z2u_E 5 (z2u_A Kv) z2u_C [] (retQ Tryz.prog Tryz.f56.results Kv) [] (startS [(Value.int .i64 n_0)]) w := by kernel_rfl
theorem z2u_n (Kv : VW) : obAt (z2u_O Kv) 0 = none := by kernel_rfl
theorem z2u_h (Kv : VW) : ∀ k, holdsAt Tryz.prog z2u_E 5 (z2u_O Kv) k := fun _ => holdsAt_ge (z2u_n Kv) (Nat.zero_le _)
theorem z2u_ok : Sound Tryz.prog 56 z2u_S := ⟨Tryz.call56, fun vs w Kv h => by
  unfold z2u_S at h
  split at h
  . have h := h.out
    rw [z2u_e] at h
    exact calls_sound (Γ := z2u_E) progMixed trivial Tryz.func56 (code := z2u_C) (by kernel_rfl) (z2u_A Kv) Kv (holds_all (z2u_h Kv)) (Nat.le_of_ble_eq_true (by kernel_rfl)) h
  . exact h.elim⟩
/-! ratio_zero -/
def z1e_sd (K : Pw.T2) (w : World) : Prop :=
  let w1 := w.alloc (Obj.cells #[(Value.int .i64 0), (Value.int .i64 0)] 44)
  wrOk w1 (Addr.mk w.heap.size 0 none) /\ 
  (let w2 := w1.setCell (Addr.mk w.heap.size 0 none) (Value.int .i64 0)
  wrOk w2 (Addr.mk w.heap.size 1 none) /\ 
  (let w3 := w2.setCell (Addr.mk w.heap.size 1 none) (Value.int .i64 1)
  ∃ x4 : Int, w3.cell? (Addr.mk w.heap.size 0 none) = some (Value.int .i64 x4) /\ ∃ x5 : Int, w3.cell? (Addr.mk w.heap.size 1 none) = some (Value.int .i64 x5) /\ K x4 x5 w3))
structure z1e_sh (K : Pw.T2) (w : World) : Prop where
  out : z1e_sd K w
noncomputable def z1e_S : Pw.Spec := fun vs w Kv =>
  match vs with
  | [] => z1e_sh (fun r0_0 r0_1 w' => Kv (Value.agg #[(Value.int .i64 r0_0), (Value.int .i64 r0_1)]) w') w
  | _ => False
noncomputable def z1e_E : Pw.Env := []
noncomputable def z1e_C : Code := (Tryz.f110.body).getD .skip
noncomputable def z1e_A (_Kv : VW) : Pw.A :=
  (A.seq (A.reg (RA.run RA.done))
   (A.seq (A.reg (Pw.rn 2 RA.done))
   A.leaf))
noncomputable def z1e_O (Kv : VW) : List Ob := (obs Tryz.prog z1e_E 2 (z1e_A Kv) z1e_C (fun _ => retQ Tryz.prog Tryz.f110.results Kv))
theorem z1e_e (Kv : VW) (w : World) : z1e_sd (fun r0_0 r0_1 w' => Kv (Value.agg #[(Value.int .i64 r0_0), (Value.int .i64 r0_1)]) w') w = W Tryz.prog z1e_E 2 (z1e_A Kv) z1e_C [] (retQ Tryz.prog Tryz.f110.results Kv) [] (startS []) w := by kernel_rfl
theorem z1e_n (Kv : VW) : obAt (z1e_O Kv) 0 = none := by kernel_rfl
theorem z1e_h (Kv : VW) : ∀ k, holdsAt Tryz.prog z1e_E 2 (z1e_O Kv) k := fun _ => holdsAt_ge (z1e_n Kv) (Nat.zero_le _)
theorem z1e_ok : Sound Tryz.prog 110 z1e_S := ⟨Tryz.call110, fun vs w Kv h => by
  unfold z1e_S at h
  split at h
  . have h := h.out
    rw [z1e_e] at h
    exact calls_sound (Γ := z1e_E) progMixed trivial Tryz.func110 (code := z1e_C) (by kernel_rfl) (z1e_A Kv) Kv (holds_all (z1e_h Kv)) (Nat.le_of_ble_eq_true (by kernel_rfl)) h
  . exact h.elim⟩
/-! ratio_size -/
def z18_sd (n_0 : Int) (K : Pw.T1) (w : World) : Prop :=
  cnd (decide (n_0 < (0 : Int)))
    (K (IntKind.wrap .u64 ((0 : Int) - (IntKind.wrap .u64 n_0))) w)
    (K (IntKind.wrap .u64 n_0) w)
structure z18_sh (n_0 : Int) (K : Pw.T1) (w : World) : Prop where
  out : z18_sd n_0 K w
noncomputable def z18_S : Pw.Spec := fun vs w Kv =>
  match vs with
  | [.int .i64 n_0] => z18_sh n_0 (fun r0 w' => Kv (Value.int .u64 r0) w') w
  | _ => False
noncomputable def z18_E : Pw.Env := []
noncomputable def z18_C : Code := (Tryz.f112.body).getD .skip
noncomputable def z18_A (_Kv : VW) : Pw.A :=
  (A.seq (A.reg (RA.run RA.done))
   (A.seq (A.seq (A.reg (Pw.rn 2 RA.done))
   (A.cond (A.seq (A.reg (RA.run (RA.raw (RA.raw (RA.run RA.done)))))
   A.leaf)
   A.leaf))
   (A.seq (A.reg (RA.run (RA.raw (RA.run RA.done))))
   A.leaf)))
noncomputable def z18_O (Kv : VW) : List Ob := (obs Tryz.prog z18_E 10 (z18_A Kv) z18_C (fun _ => retQ Tryz.prog Tryz.f112.results Kv))
theorem z18_e (Kv : VW) (n_0 : Int) (w : World) : z18_sd n_0 (fun r0 w' => Kv (Value.int .u64 r0) w') w = W Tryz.prog z18_E 10 (z18_A Kv) z18_C [] (retQ Tryz.prog Tryz.f112.results Kv) [] (startS [(Value.int .i64 n_0)]) w := by kernel_rfl
theorem z18_n (Kv : VW) : obAt (z18_O Kv) 0 = none := by kernel_rfl
theorem z18_h (Kv : VW) : ∀ k, holdsAt Tryz.prog z18_E 10 (z18_O Kv) k := fun _ => holdsAt_ge (z18_n Kv) (Nat.zero_le _)
theorem z18_ok : Sound Tryz.prog 112 z18_S := ⟨Tryz.call112, fun vs w Kv h => by
  unfold z18_S at h
  split at h
  . have h := h.out
    rw [z18_e] at h
    exact calls_sound (Γ := z18_E) progMixed trivial Tryz.func112 (code := z18_C) (by kernel_rfl) (z18_A Kv) Kv (holds_all (z18_h Kv)) (Nat.le_of_ble_eq_true (by kernel_rfl)) h
  . exact h.elim⟩
/-! ratio_gcd -/
def z1t_b0 (a_0 b_1 : Int) (N0 : Int -> Int -> World -> Prop) (K : Pw.T1) (w : World) : Prop :=
  cnd (decide (b_1 > (0 : Int)))
    (let w1 := w.drew
  b_1 ≠ 0 /\ N0 b_1 (Int.tmod a_0 b_1) w1)
    (K a_0 w)
def z1t_l0d (a_0 b_1 : Int) (K : Pw.T1) (w : World) : Prop :=
  ∃ (I : Int -> Int -> World -> Prop) (μ : Int -> Int -> World -> Nat), I a_0 b_1 w /\ ∀ (a_01 b_11 : Int) (w1 : World), I a_01 b_11 w1 ->
    z1t_b0 a_01 b_11 (fun a_0' b_1' w' => ((True) /\ I a_0' b_1' w') /\ μ a_0' b_1' w' < μ a_01 b_11 w1) K w1
structure z1t_l0 (a_0 b_1 : Int) (K : Pw.T1) (w : World) : Prop where
  out : z1t_l0d a_0 b_1 K w
def z1t_sd (a_0 b_1 : Int) (K : Pw.T1) (w : World) : Prop :=
  z1t_l0 a_0 b_1 K w
structure z1t_sh (a_0 b_1 : Int) (K : Pw.T1) (w : World) : Prop where
  out : z1t_sd a_0 b_1 K w
def z1t_P0 (Kv : VW) (ρ : Rho) (vs : List Value) (w : World) : Prop :=
  match ρ, vs with
  | _, [.int .u64 a_0, .int .u64 b_1] => z1t_l0 a_0 b_1 (fun r0 w' => Kv (Value.int .u64 r0) w') w
  | _, _ => False
noncomputable def z1t_S : Pw.Spec := fun vs w Kv =>
  match vs with
  | [.int .u64 a_0, .int .u64 b_1] => z1t_sh a_0 b_1 (fun r0 w' => Kv (Value.int .u64 r0) w') w
  | _ => False
noncomputable def z1t_E : Pw.Env := []
noncomputable def z1t_C : Code := (Tryz.f131.body).getD .skip
noncomputable def z1t_A (Kv : VW) : Pw.A :=
  (A.seq (A.reg (RA.run RA.done))
   (A.seq (A.blk (A.loop [0, 1] (z1t_P0 Kv) (A.seq (A.seq (A.reg (Pw.rn 2 RA.done))
   (A.cond A.leaf
   A.leaf))
   (A.blk (A.drp (DA.pur 0 (DA.pur 1 (DA.pur 2 (DA.pur 3 (DA.pur 4 (DA.pur 5 DA.done)))))))))))
   (A.seq (A.reg (Pw.rn 2 RA.done))
   A.leaf)))
noncomputable def z1t_O (Kv : VW) : List Ob := (obs Tryz.prog z1t_E 12 (z1t_A Kv) z1t_C (fun _ => retQ Tryz.prog Tryz.f131.results Kv))
theorem z1t_e (Kv : VW) (a_0 b_1 : Int) (w : World) : z1t_sd a_0 b_1 (fun r0 w' => Kv (Value.int .u64 r0) w') w = W Tryz.prog z1t_E 12 (z1t_A Kv) z1t_C [] (retQ Tryz.prog Tryz.f131.results Kv) [] (startS [(Value.int .u64 a_0), (Value.int .u64 b_1)]) w := by kernel_rfl
theorem z1t_e0 (Kv : VW) (N0 : List Value -> World -> Prop) (ρ : Rho) (a_0 b_1 : Int) (w : World) : z1t_b0 a_0 b_1 (fun a_0' b_1' w' => N0 [(Value.int .u64 a_0'), (Value.int .u64 b_1')] w') (fun r0 w' => Kv (Value.int .u64 r0) w') w = goalAt Tryz.prog z1t_E 12 (z1t_O Kv) 0 (N0 :: ρ) [(Value.int .u64 a_0), (Value.int .u64 b_1)] w := by kernel_rfl
theorem z1t_q0 (Kv : VW) (ρ : Rho) (vs : List Value) (w : World) : labAt (z1t_O Kv) 0 ρ vs w = z1t_P0 Kv ρ vs w := by kernel_rfl
def z1t_I0 (I : Int -> Int -> World -> Prop) (vs : List Value) (w : World) : Prop :=
  match vs with
  | [.int .u64 a_0, .int .u64 b_1] => (True) /\ I a_0 b_1 w
  | _ => False
def z1t_M0 (μ : Int -> Int -> World -> Nat) (vs : List Value) (w : World) : Nat :=
  match vs with
  | [.int .u64 a_0, .int .u64 b_1] => μ a_0 b_1 w
  | _ => 0
theorem z1t_h0 (Kv : VW) : holdsAt Tryz.prog z1t_E 12 (z1t_O Kv) 0 := holdsAt_loop (by kernel_rfl) (fun ρ vs w h => by
  rw [z1t_q0] at h
  unfold z1t_P0 at h
  split at h
  . rename_i ρt a_0 b_1
    obtain ⟨I, μ, h0, hr⟩ := h.out
    refine ⟨z1t_I0 I, z1t_M0 μ, ⟨trivial, h0⟩, fun vs w hI => ?_⟩
    unfold z1t_I0 at hI
    split at hI
    . obtain ⟨_, hI⟩ := hI
      skip
      rw [← z1t_e0]
      exact hr _ _ _ hI
    . exact hI.elim
  . exact h.elim)
theorem z1t_n (Kv : VW) : obAt (z1t_O Kv) 1 = none := by kernel_rfl
theorem z1t_h (Kv : VW) : ∀ k, holdsAt Tryz.prog z1t_E 12 (z1t_O Kv) k := fun k => match k with
  | 0 => z1t_h0 Kv
  | _k + 1 => holdsAt_ge (z1t_n Kv) (Nat.le_add_left _ _)
theorem z1t_ok : Sound Tryz.prog 131 z1t_S := ⟨Tryz.call131, fun vs w Kv h => by
  unfold z1t_S at h
  split at h
  . have h := h.out
    rw [z1t_e] at h
    exact calls_sound (Γ := z1t_E) progMixed trivial Tryz.func131 (code := z1t_C) (by kernel_rfl) (z1t_A Kv) Kv (holds_all (z1t_h Kv)) (Nat.le_of_ble_eq_true (by kernel_rfl)) h
  . exact h.elim⟩
/-! ratio_rat -/
def z1z_k0d (t_6 : Addr) (K : Pw.T3) (w : World) : Prop :=
  z1e_sh (fun r10_0 r10_1 w9 => wrOk w9 t_6 /\ 
  (let w11 := w9.setCell t_6 (Value.int .i64 r10_0)
  wrOk w11 (t_6.add 1) /\ 
  (let w12 := w11.setCell (t_6.add 1) (Value.int .i64 r10_1)
  ∃ x13 : Int, w12.cell? t_6 = some (Value.int .i64 x13) /\ ∃ x14 : Int, w12.cell? (t_6.add 1) = some (Value.int .i64 x14) /\ K x13 x14 false w12))) w
structure z1z_k0 (t_6 : Addr) (K : Pw.T3) (w : World) : Prop where
  out : z1z_k0d t_6 K w
def z1z_k2d (d_5 t_6 : Addr) (num_8 : Int) (K : Pw.T3) (w : World) : Prop :=
  ∃ x16 : Int, w.cell? (d_5.add 1) = some (Value.int .u64 x16) /\ wrOk w t_6 /\ 
  (let w17 := w.setCell t_6 (Value.int .i64 num_8)
  wrOk w17 (t_6.add 1) /\ 
  (let w18 := w17.setCell (t_6.add 1) (Value.int .i64 (IntKind.wrap .i64 x16))
  ∃ x19 : Int, w18.cell? t_6 = some (Value.int .i64 x19) /\ ∃ x20 : Int, w18.cell? (t_6.add 1) = some (Value.int .i64 x20) /\ K x19 x20 true w18))
structure z1z_k2 (d_5 t_6 : Addr) (num_8 : Int) (K : Pw.T3) (w : World) : Prop where
  out : z1z_k2d d_5 t_6 num_8 K w
def z1z_k1d (neg_0 : Bool) (n_4 d_5 t_6 : Addr) (K : Pw.T3) (w : World) : Prop :=
  ∃ x15 : Int, w.cell? (n_4.add 1) = some (Value.int .u64 x15) /\ cnd neg_0
    (z1z_k2 d_5 t_6 (IntKind.wrap .i64 ((0 : Int) - (IntKind.wrap .i64 x15))) K w)
    (z1z_k2 d_5 t_6 (IntKind.wrap .i64 x15) K w)
structure z1z_k1 (neg_0 : Bool) (n_4 d_5 t_6 : Addr) (K : Pw.T3) (w : World) : Prop where
  out : z1z_k1d neg_0 n_4 d_5 t_6 K w
def z1z_sd (neg_0 : Bool) (n_1_0 n_1_1 : Int) (d_2_0 d_2_1 : Int) (K : Pw.T3) (w : World) : Prop :=
  let w1 := w.alloc (Obj.cells #[(Value.int .u64 n_1_0), (Value.int .u64 n_1_1)] 144)
  let w2 := w1.alloc (Obj.cells #[(Value.int .u64 d_2_0), (Value.int .u64 d_2_1)] 144)
  let w3 := w2.alloc (Obj.cells #[(Value.int .i64 0), (Value.int .i64 0)] 44)
  ∃ x4 : Int, w3.cell? (Addr.mk w.heap.size 0 none) = some (Value.int .u64 x4) /\ cnd (decide (x4 > (0 : Int)))
    (z1z_k0 (Addr.mk w2.heap.size 0 none) K w3)
    (∃ x5 : Int, w3.cell? (Addr.mk w1.heap.size 0 none) = some (Value.int .u64 x5) /\ cnd (decide (x5 > (0 : Int)))
    (z1z_k0 (Addr.mk w2.heap.size 0 none) K w3)
    (∃ x6 : Int, w3.cell? (Addr.mk w1.heap.size 1 none) = some (Value.int .u64 x6) /\ cnd (decide (x6 > (9223372036854775807 : Int)))
    (z1z_k0 (Addr.mk w2.heap.size 0 none) K w3)
    (∃ x7 : Int, w3.cell? (Addr.mk w.heap.size 1 none) = some (Value.int .u64 x7) /\ cnd (decide (x7 > (9223372036854775808 : Int)))
    (z1z_k0 (Addr.mk w2.heap.size 0 none) K w3)
    (∃ x8 : Int, w3.cell? (Addr.mk w.heap.size 1 none) = some (Value.int .u64 x8) /\ cnd (x8 == (9223372036854775808 : Int))
    (cnd (!neg_0)
    (z1z_k0 (Addr.mk w2.heap.size 0 none) K w3)
    (z1z_k1 neg_0 (Addr.mk w.heap.size 0 none) (Addr.mk w1.heap.size 0 none) (Addr.mk w2.heap.size 0 none) K w3))
    (z1z_k1 neg_0 (Addr.mk w.heap.size 0 none) (Addr.mk w1.heap.size 0 none) (Addr.mk w2.heap.size 0 none) K w3)))))
structure z1z_sh (neg_0 : Bool) (n_1_0 n_1_1 : Int) (d_2_0 d_2_1 : Int) (K : Pw.T3) (w : World) : Prop where
  out : z1z_sd neg_0 n_1_0 n_1_1 d_2_0 d_2_1 K w
def z1z_P0 (Kv : VW) (ρ : Rho) (vs : List Value) (w : World) : Prop :=
  match ρ, vs with
  | _, [.pointer (some t_6)] => z1z_k0 t_6 (Pw.kR Kv) w
  | _, _ => False
def z1z_P1 (Kv : VW) (ρ : Rho) (vs : List Value) (w : World) : Prop :=
  match ρ, vs with
  | _, [.bool neg_0, .pointer (some n_4), .pointer (some d_5), .pointer (some t_6)] => z1z_k1 neg_0 n_4 d_5 t_6 (Pw.kR Kv) w
  | _, _ => False
def z1z_P2 (Kv : VW) (ρ : Rho) (vs : List Value) (w : World) : Prop :=
  match ρ, vs with
  | _, [.pointer (some d_5), .pointer (some t_6), .int .i64 num_8] => z1z_k2 d_5 t_6 num_8 (Pw.kR Kv) w
  | _, _ => False
noncomputable def z1z_S : Pw.Spec := fun vs w Kv =>
  match vs with
  | [.bool neg_0, .agg ⟨[.int .u64 n_1_0, .int .u64 n_1_1]⟩, .agg ⟨[.int .u64 d_2_0, .int .u64 d_2_1]⟩] => z1z_sh neg_0 n_1_0 n_1_1 d_2_0 d_2_1 (Pw.kR Kv) w
  | _ => False
noncomputable def z1z_E : Pw.Env := [(110, z1e_S)]
noncomputable def z1z_C : Code := (Tryz.f132.body).getD .skip
noncomputable def z1z_A (Kv : VW) : Pw.A :=
  (A.seq (A.reg (Pw.rn 4 RA.done))
   (A.seq (A.seq (A.reg (Pw.rn 4 (RA.spl 12 (Pw.sk 3 (Pw.rn 2 (Pw.sk 3 (Pw.rn 2 (Pw.sk 3 (Pw.rn 2 (Pw.sk 7 (RA.run RA.done)))))))) (Pw.rn 5 (RA.spl 17 (Pw.sk 3 (Pw.rn 2 (Pw.sk 3 (Pw.rn 2 (Pw.sk 7 (RA.run RA.done)))))) (Pw.rn 5 (RA.spl 22 (Pw.sk 3 (Pw.rn 2 (Pw.sk 7 (RA.run RA.done)))) (Pw.rn 5 (RA.spl 27 (Pw.sk 7 (RA.run RA.done)) (Pw.rn 4 (RA.spl 31 (Pw.rn 4 RA.done) (Pw.sk 2 (Pw.rn 2 RA.done)))))))))))))
   (A.cond (A.cut [6] (z1z_P0 Kv) (A.seq (A.reg (Pw.rn 3 RA.done))
   A.leaf))
   A.leaf))
   (A.cut [0, 4, 5, 6] (z1z_P1 Kv) (A.seq (A.reg (Pw.rn 2 (RA.raw (RA.run RA.done))))
   (A.seq (A.seq (A.reg (RA.run RA.done))
   (A.cond (A.reg (RA.run (RA.raw (RA.run RA.done))))
   A.leaf))
   (A.cut [5, 6, 8] (z1z_P2 Kv) (A.seq (A.reg (Pw.rn 3 (RA.raw (Pw.rn 3 RA.done))))
   A.leaf)))))))
noncomputable def z1z_O (Kv : VW) : List Ob := (obs Tryz.prog z1z_E 48 (z1z_A Kv) z1z_C (fun _ => retQ Tryz.prog Tryz.f132.results Kv))
theorem z1z_e (Kv : VW) (neg_0 : Bool) (n_1_0 n_1_1 : Int) (d_2_0 d_2_1 : Int) (w : World) : z1z_sd neg_0 n_1_0 n_1_1 d_2_0 d_2_1 (Pw.kR Kv) w = W Tryz.prog z1z_E 48 (z1z_A Kv) z1z_C [] (retQ Tryz.prog Tryz.f132.results Kv) [] (startS [(Value.bool neg_0), (Value.agg #[(Value.int .u64 n_1_0), (Value.int .u64 n_1_1)]), (Value.agg #[(Value.int .u64 d_2_0), (Value.int .u64 d_2_1)])]) w := by kernel_rfl
theorem z1z_e0 (Kv : VW) (ρ : Rho) (t_6 : Addr) (w : World) : z1z_k0d t_6 (Pw.kR Kv) w = goalAt Tryz.prog z1z_E 48 (z1z_O Kv) 0 (ρ) [(Value.pointer (some t_6))] w := by kernel_rfl
theorem z1z_q0 (Kv : VW) (ρ : Rho) (vs : List Value) (w : World) : labAt (z1z_O Kv) 0 ρ vs w = z1z_P0 Kv ρ vs w := by kernel_rfl
theorem z1z_h0 (Kv : VW) : holdsAt Tryz.prog z1z_E 48 (z1z_O Kv) 0 := holdsAt_cut (.inl (by kernel_rfl)) (fun ρ vs w h => by
  rw [z1z_q0] at h
  unfold z1z_P0 at h
  split at h
  . rw [← z1z_e0]; exact h.out
  . exact h.elim)
theorem z1z_e1 (Kv : VW) (ρ : Rho) (neg_0 : Bool) (n_4 d_5 t_6 : Addr) (w : World) : z1z_k1d neg_0 n_4 d_5 t_6 (Pw.kR Kv) w = goalAt Tryz.prog z1z_E 48 (z1z_O Kv) 1 (ρ) [(Value.bool neg_0), (Value.pointer (some n_4)), (Value.pointer (some d_5)), (Value.pointer (some t_6))] w := by kernel_rfl
theorem z1z_q1 (Kv : VW) (ρ : Rho) (vs : List Value) (w : World) : labAt (z1z_O Kv) 1 ρ vs w = z1z_P1 Kv ρ vs w := by kernel_rfl
theorem z1z_h1 (Kv : VW) : holdsAt Tryz.prog z1z_E 48 (z1z_O Kv) 1 := holdsAt_cut (.inl (by kernel_rfl)) (fun ρ vs w h => by
  rw [z1z_q1] at h
  unfold z1z_P1 at h
  split at h
  . rw [← z1z_e1]; exact h.out
  . exact h.elim)
theorem z1z_e2 (Kv : VW) (ρ : Rho) (d_5 t_6 : Addr) (num_8 : Int) (w : World) : z1z_k2d d_5 t_6 num_8 (Pw.kR Kv) w = goalAt Tryz.prog z1z_E 48 (z1z_O Kv) 2 (ρ) [(Value.pointer (some d_5)), (Value.pointer (some t_6)), (Value.int .i64 num_8)] w := by kernel_rfl
theorem z1z_q2 (Kv : VW) (ρ : Rho) (vs : List Value) (w : World) : labAt (z1z_O Kv) 2 ρ vs w = z1z_P2 Kv ρ vs w := by kernel_rfl
theorem z1z_h2 (Kv : VW) : holdsAt Tryz.prog z1z_E 48 (z1z_O Kv) 2 := holdsAt_cut (.inl (by kernel_rfl)) (fun ρ vs w h => by
  rw [z1z_q2] at h
  unfold z1z_P2 at h
  split at h
  . rw [← z1z_e2]; exact h.out
  . exact h.elim)
theorem z1z_n (Kv : VW) : obAt (z1z_O Kv) 3 = none := by kernel_rfl
theorem z1z_h (Kv : VW) : ∀ k, holdsAt Tryz.prog z1z_E 48 (z1z_O Kv) k := fun k => match k with
  | 0 => z1z_h0 Kv
  | 1 => z1z_h1 Kv
  | 2 => z1z_h2 Kv
  | _k + 3 => holdsAt_ge (z1z_n Kv) (Nat.le_add_left _ _)
theorem z1z_ok : Sound Tryz.prog 132 z1z_S := ⟨Tryz.call132, fun vs w Kv h => by
  unfold z1z_S at h
  split at h
  . have h := h.out
    rw [z1z_e] at h
    exact calls_sound (Γ := z1z_E) progMixed ⟨.inl z1e_ok, trivial⟩ Tryz.func132 (code := z1z_C) (by kernel_rfl) (z1z_A Kv) Kv (holds_all (z1z_h Kv)) (Nat.le_of_ble_eq_true (by kernel_rfl)) h
  . exact h.elim⟩
/-! ratio_lowest -/
def z0t_sd (f_0_0 : Bool) (f_0_1 f_0_2 : Int) (K : Pw.T3) (w : World) : Prop :=
  let w1 := w.alloc (Obj.cells #[(Value.bool f_0_0), (Value.int .u64 f_0_1), (Value.int .u64 f_0_2)] 137)
  let w2 := w1.alloc (Obj.cells #[(Value.int .i64 0), (Value.int .i64 0)] 44)
  ∃ x3 : Int, w2.cell? (Addr.mk w.heap.size 1 none) = some (Value.int .u64 x3) /\ ∃ x4 : Int, w2.cell? (Addr.mk w.heap.size 2 none) = some (Value.int .u64 x4) /\ z1t_sh x3 x4 (fun r6 w5 => let w7 := w5.drew
  ∃ S8 : World -> Prop, S8 w7 /\ ∃ x9 : Bool, (∀ w' : World, S8 w' -> w'.cell? (Addr.mk w.heap.size 0 none) = some (Value.bool x9)) /\ ∃ x10 : Int, (∀ w' : World, S8 w' -> w'.cell? (Addr.mk w.heap.size 1 none) = some (Value.int .u64 x10)) /\ r6 ≠ 0 /\ inR .u64 (Int.tdiv x10 r6) /\ ∃ x11 : Int, (∀ w' : World, S8 w' -> w'.cell? (Addr.mk w.heap.size 2 none) = some (Value.int .u64 x11)) /\ r6 ≠ 0 /\ inR .u64 (Int.tdiv x11 r6) /\ cnd x9
    (∃ x12 : Int, (∀ w' : World, S8 w' -> w'.cell? (Addr.mk w.heap.size 1 none) = some (Value.int .u64 x12)) /\ z1z_sh (decide (x12 > (0 : Int))) (0 : Int) (Int.tdiv x10 r6) (0 : Int) (Int.tdiv x11 r6) (fun r14_0 r14_1 r15 w13 => S8 w13 /\ wrOk w13 (Addr.mk w1.heap.size 0 none) /\ 
  (let w16 := w13.setCell (Addr.mk w1.heap.size 0 none) (Value.int .i64 r14_0)
  wrOk w16 (Addr.mk w1.heap.size 1 none) /\ 
  (let w17 := w16.setCell (Addr.mk w1.heap.size 1 none) (Value.int .i64 r14_1)
  ∃ x23 : Int, w17.cell? (Addr.mk w1.heap.size 0 none) = some (Value.int .i64 x23) /\ ∃ x24 : Int, w17.cell? (Addr.mk w1.heap.size 1 none) = some (Value.int .i64 x24) /\ K x23 x24 r15 w17))) w7)
    (z1z_sh false (0 : Int) (Int.tdiv x10 r6) (0 : Int) (Int.tdiv x11 r6) (fun r19_0 r19_1 r20 w18 => S8 w18 /\ wrOk w18 (Addr.mk w1.heap.size 0 none) /\ 
  (let w21 := w18.setCell (Addr.mk w1.heap.size 0 none) (Value.int .i64 r19_0)
  wrOk w21 (Addr.mk w1.heap.size 1 none) /\ 
  (let w22 := w21.setCell (Addr.mk w1.heap.size 1 none) (Value.int .i64 r19_1)
  ∃ x25 : Int, w22.cell? (Addr.mk w1.heap.size 0 none) = some (Value.int .i64 x25) /\ ∃ x26 : Int, w22.cell? (Addr.mk w1.heap.size 1 none) = some (Value.int .i64 x26) /\ K x25 x26 r20 w22))) w7)) w2
structure z0t_sh (f_0_0 : Bool) (f_0_1 f_0_2 : Int) (K : Pw.T3) (w : World) : Prop where
  out : z0t_sd f_0_0 f_0_1 f_0_2 K w
noncomputable def z0t_S : Pw.Spec := fun vs w Kv =>
  match vs with
  | [.agg ⟨[.bool f_0_0, .int .u64 f_0_1, .int .u64 f_0_2]⟩] => z0t_sh f_0_0 f_0_1 f_0_2 (Pw.kR Kv) w
  | _ => False
noncomputable def z0t_E : Pw.Env := [(131, z1t_S), (132, z1z_S)]
noncomputable def z0t_C : Code := (Tryz.f111.body).getD .skip
noncomputable def z0t_A (_Kv : VW) : Pw.A :=
  (A.seq (A.reg (Pw.rn 3 RA.done))
   (A.seq (A.reg (Pw.rn 6 RA.done))
   (A.seq (A.drw (DA.pur 0 (DA.pur 1 (DA.pur 2 (DA.pur 7 (DA.pur 8 (DA.pur 9 (DA.pur 10 (DA.pur 11 (DA.pur 12 (DA.pur 13 (DA.pur 14 (DA.pur 15 (DA.pur 16 (DA.spl 12 (DA.pur 3 (DA.pur 4 (DA.pur 5 (DA.pur 6 (DA.eff 17 (DA.pur 18 (DA.pur 19 (DA.eff 20 (DA.pur 21 DA.done))))))))) (DA.skp 3 (DA.skp 4 (DA.skp 5 (DA.pur 6 (DA.eff 17 (DA.pur 18 (DA.pur 19 (DA.eff 20 (DA.pur 21 DA.done))))))))))))))))))))))))
   A.leaf)))
noncomputable def z0t_O (Kv : VW) : List Ob := (obs Tryz.prog z0t_E 30 (z0t_A Kv) z0t_C (fun _ => retQ Tryz.prog Tryz.f111.results Kv))
theorem z0t_e (Kv : VW) (f_0_0 : Bool) (f_0_1 f_0_2 : Int) (w : World) : z0t_sd f_0_0 f_0_1 f_0_2 (Pw.kR Kv) w = W Tryz.prog z0t_E 30 (z0t_A Kv) z0t_C [] (retQ Tryz.prog Tryz.f111.results Kv) [] (startS [(Value.agg #[(Value.bool f_0_0), (Value.int .u64 f_0_1), (Value.int .u64 f_0_2)])]) w := by kernel_rfl
theorem z0t_n (Kv : VW) : obAt (z0t_O Kv) 0 = none := by kernel_rfl
theorem z0t_h (Kv : VW) : ∀ k, holdsAt Tryz.prog z0t_E 30 (z0t_O Kv) k := fun _ => holdsAt_ge (z0t_n Kv) (Nat.zero_le _)
theorem z0t_ok : Sound Tryz.prog 111 z0t_S := ⟨Tryz.call111, fun vs w Kv h => by
  unfold z0t_S at h
  split at h
  . have h := h.out
    rw [z0t_e] at h
    exact calls_sound (Γ := z0t_E) progMixed ⟨.inl z1t_ok, .inl z1z_ok, trivial⟩ Tryz.func111 (code := z0t_C) (by kernel_rfl) (z0t_A Kv) Kv (holds_all (z0t_h Kv)) (Nat.le_of_ble_eq_true (by kernel_rfl)) h
  . exact h.elim⟩
/-! ratio_Make -/
def z1i_sd (num_0 den_1 : Int) (K : Pw.T3) (w : World) : Prop :=
  let w1 := w.alloc (Obj.cells #[(Value.int .i64 0), (Value.int .i64 0)] 44)
  cnd (den_1 == (0 : Int))
    (z1e_sh (fun r3_0 r3_1 w2 => wrOk w2 (Addr.mk w.heap.size 0 none) /\ 
  (let w4 := w2.setCell (Addr.mk w.heap.size 0 none) (Value.int .i64 r3_0)
  wrOk w4 (Addr.mk w.heap.size 1 none) /\ 
  (let w5 := w4.setCell (Addr.mk w.heap.size 1 none) (Value.int .i64 r3_1)
  ∃ x6 : Int, w5.cell? (Addr.mk w.heap.size 0 none) = some (Value.int .i64 x6) /\ ∃ x7 : Int, w5.cell? (Addr.mk w.heap.size 1 none) = some (Value.int .i64 x7) /\ K x6 x7 false w5))) w1)
    (z18_sh num_0 (fun r9 w8 => z18_sh den_1 (fun r11 w10 => z0t_sh (!((decide (num_0 < (0 : Int))) == (decide (den_1 < (0 : Int))))) r9 r11 (fun r13_0 r13_1 r14 w12 => wrOk w12 (Addr.mk w.heap.size 0 none) /\ 
  (let w15 := w12.setCell (Addr.mk w.heap.size 0 none) (Value.int .i64 r13_0)
  wrOk w15 (Addr.mk w.heap.size 1 none) /\ 
  (let w16 := w15.setCell (Addr.mk w.heap.size 1 none) (Value.int .i64 r13_1)
  ∃ x17 : Int, w16.cell? (Addr.mk w.heap.size 0 none) = some (Value.int .i64 x17) /\ ∃ x18 : Int, w16.cell? (Addr.mk w.heap.size 1 none) = some (Value.int .i64 x18) /\ K x17 x18 r14 w16))) w10) w8) w1)
structure z1i_sh (num_0 den_1 : Int) (K : Pw.T3) (w : World) : Prop where
  out : z1i_sd num_0 den_1 K w
noncomputable def z1i_S : Pw.Spec := fun vs w Kv =>
  match vs with
  | [.int .i64 num_0, .int .i64 den_1] => z1i_sh num_0 den_1 (Pw.kR Kv) w
  | _ => False
noncomputable def z1i_E : Pw.Env := [(110, z1e_S), (111, z0t_S), (112, z18_S)]
noncomputable def z1i_C : Code := (Tryz.f96.body).getD .skip
noncomputable def z1i_A (_Kv : VW) : Pw.A :=
  (A.seq (A.reg (Pw.rn 2 RA.done))
   (A.seq (A.seq (A.reg (Pw.rn 2 RA.done))
   (A.cond (A.seq (A.reg (Pw.rn 3 RA.done))
   A.leaf)
   A.leaf))
   (A.seq (A.reg (Pw.rn 15 RA.done))
   A.leaf)))
noncomputable def z1i_O (Kv : VW) : List Ob := (obs Tryz.prog z1i_E 22 (z1i_A Kv) z1i_C (fun _ => retQ Tryz.prog Tryz.f96.results Kv))
theorem z1i_e (Kv : VW) (num_0 den_1 : Int) (w : World) : z1i_sd num_0 den_1 (Pw.kR Kv) w = W Tryz.prog z1i_E 22 (z1i_A Kv) z1i_C [] (retQ Tryz.prog Tryz.f96.results Kv) [] (startS [(Value.int .i64 num_0), (Value.int .i64 den_1)]) w := by kernel_rfl
theorem z1i_n (Kv : VW) : obAt (z1i_O Kv) 0 = none := by kernel_rfl
theorem z1i_h (Kv : VW) : ∀ k, holdsAt Tryz.prog z1i_E 22 (z1i_O Kv) k := fun _ => holdsAt_ge (z1i_n Kv) (Nat.zero_le _)
theorem z1i_ok : Sound Tryz.prog 96 z1i_S := ⟨Tryz.call96, fun vs w Kv h => by
  unfold z1i_S at h
  split at h
  . have h := h.out
    rw [z1i_e] at h
    exact calls_sound (Γ := z1i_E) progMixed ⟨.inl z1e_ok, .inl z0t_ok, .inl z18_ok, trivial⟩ Tryz.func96 (code := z1i_C) (by kernel_rfl) (z1i_A Kv) Kv (holds_all (z1i_h Kv)) (Nat.le_of_ble_eq_true (by kernel_rfl)) h
  . exact h.elim⟩
/-! ratio_Right -/
def z0y_sd (a_0_0 a_0_1 : Int) (K : Pw.T0) (w : World) : Prop :=
  let w1 := w.alloc (Obj.cells #[(Value.int .i64 a_0_0), (Value.int .i64 a_0_1)] 44)
  let w2 := w1.drew
  ∃ S3 : World -> Prop, S3 w2 /\ ∃ x4 : Int, (∀ w' : World, S3 w' -> w'.cell? (Addr.mk w.heap.size 1 none) = some (Value.int .i64 x4)) /\ cnd (decide (x4 > (0 : Int)))
    (∃ x5 : Int, (∀ w' : World, S3 w' -> w'.cell? (Addr.mk w.heap.size 0 none) = some (Value.int .i64 x5)) /\ ∃ x6 : Int, (∀ w' : World, S3 w' -> w'.cell? (Addr.mk w.heap.size 1 none) = some (Value.int .i64 x6)) /\ inR .u64 x6 /\ z18_sh x5 (fun r8 w7 => S3 w7 /\ z1t_sh r8 x6 (fun r10 w9 => S3 w9 /\ K (r10 == (1 : Int)) w9) w7) w2)
    (K false w2)
structure z0y_sh (a_0_0 a_0_1 : Int) (K : Pw.T0) (w : World) : Prop where
  out : z0y_sd a_0_0 a_0_1 K w
noncomputable def z0y_S : Pw.Spec := fun vs w Kv =>
  match vs with
  | [.agg ⟨[.int .i64 a_0_0, .int .i64 a_0_1]⟩] => z0y_sh a_0_0 a_0_1 (Pw.kB Kv) w
  | _ => False
noncomputable def z0y_E : Pw.Env := [(112, z18_S), (131, z1t_S)]
noncomputable def z0y_C : Code := (Tryz.f120.body).getD .skip
noncomputable def z0y_A (_Kv : VW) : Pw.A :=
  (A.seq (A.reg (Pw.rn 2 RA.done))
   (A.seq (A.drw (DA.pur 0 (DA.pur 1 (DA.pur 2 (DA.pur 3 (DA.spl 6 (DA.pur 4 (DA.pur 5 (DA.pur 7 (DA.pur 8 (DA.pur 9 (DA.eff 6 (DA.eff 10 (DA.pur 11 (DA.pur 12 (DA.pur 13 DA.done)))))))))) (DA.skp 4 (DA.skp 5 (DA.skp 7 (DA.skp 8 (DA.skp 9 (DA.skp 6 (DA.skp 10 (DA.skp 11 (DA.pur 12 (DA.pur 13 DA.done))))))))))))))))
   A.leaf))
noncomputable def z0y_O (Kv : VW) : List Ob := (obs Tryz.prog z0y_E 16 (z0y_A Kv) z0y_C (fun _ => retQ Tryz.prog Tryz.f120.results Kv))
theorem z0y_e (Kv : VW) (a_0_0 a_0_1 : Int) (w : World) : z0y_sd a_0_0 a_0_1 (Pw.kB Kv) w = W Tryz.prog z0y_E 16 (z0y_A Kv) z0y_C [] (retQ Tryz.prog Tryz.f120.results Kv) [] (startS [(Value.agg #[(Value.int .i64 a_0_0), (Value.int .i64 a_0_1)])]) w := by kernel_rfl
theorem z0y_n (Kv : VW) : obAt (z0y_O Kv) 0 = none := by kernel_rfl
theorem z0y_h (Kv : VW) : ∀ k, holdsAt Tryz.prog z0y_E 16 (z0y_O Kv) k := fun _ => holdsAt_ge (z0y_n Kv) (Nat.zero_le _)
theorem z0y_ok : Sound Tryz.prog 120 z0y_S := ⟨Tryz.call120, fun vs w Kv h => by
  unfold z0y_S at h
  split at h
  . have h := h.out
    rw [z0y_e] at h
    exact calls_sound (Γ := z0y_E) progMixed ⟨.inl z18_ok, .inl z1t_ok, trivial⟩ Tryz.func120 (code := z0y_C) (by kernel_rfl) (z0y_A Kv) Kv (holds_all (z0y_h Kv)) (Nat.le_of_ble_eq_true (by kernel_rfl)) h
  . exact h.elim⟩
/-! ratio_both -/
def z1d_sd (a_0_0 a_0_1 : Int) (b_1_0 b_1_1 : Int) (K : Pw.T0) (w : World) : Prop :=
  let w1 := w.alloc (Obj.cells #[(Value.int .i64 a_0_0), (Value.int .i64 a_0_1)] 44)
  let w2 := w1.alloc (Obj.cells #[(Value.int .i64 b_1_0), (Value.int .i64 b_1_1)] 44)
  ∃ x3 : Int, w2.cell? (Addr.mk w.heap.size 0 none) = some (Value.int .i64 x3) /\ ∃ x4 : Int, w2.cell? (Addr.mk w.heap.size 1 none) = some (Value.int .i64 x4) /\ z0y_sh x3 x4 (fun r6 w5 => cnd r6
    (∃ x7 : Int, w5.cell? (Addr.mk w1.heap.size 0 none) = some (Value.int .i64 x7) /\ ∃ x8 : Int, w5.cell? (Addr.mk w1.heap.size 1 none) = some (Value.int .i64 x8) /\ z0y_sh x7 x8 (fun r10 w9 => K r10 w9) w5)
    (K false w5)) w2
structure z1d_sh (a_0_0 a_0_1 : Int) (b_1_0 b_1_1 : Int) (K : Pw.T0) (w : World) : Prop where
  out : z1d_sd a_0_0 a_0_1 b_1_0 b_1_1 K w
noncomputable def z1d_S : Pw.Spec := fun vs w Kv =>
  match vs with
  | [.agg ⟨[.int .i64 a_0_0, .int .i64 a_0_1]⟩, .agg ⟨[.int .i64 b_1_0, .int .i64 b_1_1]⟩] => z1d_sh a_0_0 a_0_1 b_1_0 b_1_1 (Pw.kB Kv) w
  | _ => False
noncomputable def z1d_E : Pw.Env := [(120, z0y_S)]
noncomputable def z1d_C : Code := (Tryz.f116.body).getD .skip
noncomputable def z1d_A (_Kv : VW) : Pw.A :=
  (A.seq (A.reg (Pw.rn 3 RA.done))
   (A.seq (A.reg (Pw.rn 3 (RA.spl 7 (Pw.rn 4 RA.done) (Pw.sk 2 (Pw.rn 2 RA.done)))))
   A.leaf))
noncomputable def z1d_O (Kv : VW) : List Ob := (obs Tryz.prog z1d_E 11 (z1d_A Kv) z1d_C (fun _ => retQ Tryz.prog Tryz.f116.results Kv))
theorem z1d_e (Kv : VW) (a_0_0 a_0_1 : Int) (b_1_0 b_1_1 : Int) (w : World) : z1d_sd a_0_0 a_0_1 b_1_0 b_1_1 (Pw.kB Kv) w = W Tryz.prog z1d_E 11 (z1d_A Kv) z1d_C [] (retQ Tryz.prog Tryz.f116.results Kv) [] (startS [(Value.agg #[(Value.int .i64 a_0_0), (Value.int .i64 a_0_1)]), (Value.agg #[(Value.int .i64 b_1_0), (Value.int .i64 b_1_1)])]) w := by kernel_rfl
theorem z1d_n (Kv : VW) : obAt (z1d_O Kv) 0 = none := by kernel_rfl
theorem z1d_h (Kv : VW) : ∀ k, holdsAt Tryz.prog z1d_E 11 (z1d_O Kv) k := fun _ => holdsAt_ge (z1d_n Kv) (Nat.zero_le _)
theorem z1d_ok : Sound Tryz.prog 116 z1d_S := ⟨Tryz.call116, fun vs w Kv h => by
  unfold z1d_S at h
  split at h
  . have h := h.out
    rw [z1d_e] at h
    exact calls_sound (Γ := z1d_E) progMixed ⟨.inl z0y_ok, trivial⟩ Tryz.func116 (code := z1d_C) (by kernel_rfl) (z1d_A Kv) Kv (holds_all (z1d_h Kv)) (Nat.le_of_ble_eq_true (by kernel_rfl)) h
  . exact h.elim⟩
/-! ratio_of -/
def z29_sd (a_0_0 a_0_1 : Int) (K : Pw.T10) (w : World) : Prop :=
  let w1 := w.alloc (Obj.cells #[(Value.int .i64 a_0_0), (Value.int .i64 a_0_1)] 44)
  let w2 := w1.alloc (Obj.cells #[(Value.bool false), (Value.int .u64 0), (Value.int .u64 0)] 137)
  let w3 := w2.drew
  ∃ S4 : World -> Prop, S4 w3 /\ ∃ x5 : Int, (∀ w' : World, S4 w' -> w'.cell? (Addr.mk w.heap.size 0 none) = some (Value.int .i64 x5)) /\ ∃ x6 : Int, (∀ w' : World, S4 w' -> w'.cell? (Addr.mk w.heap.size 0 none) = some (Value.int .i64 x6)) /\ ∃ x7 : Int, (∀ w' : World, S4 w' -> w'.cell? (Addr.mk w.heap.size 1 none) = some (Value.int .i64 x7)) /\ z18_sh x6 (fun r9 w8 => S4 w8 /\ z18_sh x7 (fun r11 w10 => S4 w10 /\ wrOk w10 (Addr.mk w1.heap.size 0 none) /\ 
  (let w12 := w10.setCell (Addr.mk w1.heap.size 0 none) (Value.bool (decide (x5 < (0 : Int))))
  wrOk w12 (Addr.mk w1.heap.size 1 none) /\ 
  (let w13 := w12.setCell (Addr.mk w1.heap.size 1 none) (Value.int .u64 r9)
  wrOk w13 (Addr.mk w1.heap.size 2 none) /\ 
  (let w14 := w13.setCell (Addr.mk w1.heap.size 2 none) (Value.int .u64 r11)
  ∃ x15 : Bool, w14.cell? (Addr.mk w1.heap.size 0 none) = some (Value.bool x15) /\ ∃ x16 : Int, w14.cell? (Addr.mk w1.heap.size 1 none) = some (Value.int .u64 x16) /\ ∃ x17 : Int, w14.cell? (Addr.mk w1.heap.size 2 none) = some (Value.int .u64 x17) /\ K x15 x16 x17 w14)))) w8) w3
structure z29_sh (a_0_0 a_0_1 : Int) (K : Pw.T10) (w : World) : Prop where
  out : z29_sd a_0_0 a_0_1 K w
noncomputable def z29_S : Pw.Spec := fun vs w Kv =>
  match vs with
  | [.agg ⟨[.int .i64 a_0_0, .int .i64 a_0_1]⟩] => z29_sh a_0_0 a_0_1 (fun r0_0 r0_1 r0_2 w' => Kv (Value.agg #[(Value.bool r0_0), (Value.int .u64 r0_1), (Value.int .u64 r0_2)]) w') w
  | _ => False
noncomputable def z29_E : Pw.Env := [(112, z18_S)]
noncomputable def z29_C : Code := (Tryz.f117.body).getD .skip
noncomputable def z29_A (_Kv : VW) : Pw.A :=
  (A.seq (A.reg (Pw.rn 2 RA.done))
   (A.seq (A.drw (DA.pur 0 (DA.pur 1 (DA.pur 2 (DA.pur 3 (DA.pur 4 (DA.pur 6 (DA.pur 7 (DA.eff 5 (DA.eff 8 (DA.pur 9 (DA.eff 10 DA.done))))))))))))
   A.leaf))
noncomputable def z29_O (Kv : VW) : List Ob := (obs Tryz.prog z29_E 13 (z29_A Kv) z29_C (fun _ => retQ Tryz.prog Tryz.f117.results Kv))
theorem z29_e (Kv : VW) (a_0_0 a_0_1 : Int) (w : World) : z29_sd a_0_0 a_0_1 (fun r0_0 r0_1 r0_2 w' => Kv (Value.agg #[(Value.bool r0_0), (Value.int .u64 r0_1), (Value.int .u64 r0_2)]) w') w = W Tryz.prog z29_E 13 (z29_A Kv) z29_C [] (retQ Tryz.prog Tryz.f117.results Kv) [] (startS [(Value.agg #[(Value.int .i64 a_0_0), (Value.int .i64 a_0_1)])]) w := by kernel_rfl
theorem z29_n (Kv : VW) : obAt (z29_O Kv) 0 = none := by kernel_rfl
theorem z29_h (Kv : VW) : ∀ k, holdsAt Tryz.prog z29_E 13 (z29_O Kv) k := fun _ => holdsAt_ge (z29_n Kv) (Nat.zero_le _)
theorem z29_ok : Sound Tryz.prog 117 z29_S := ⟨Tryz.call117, fun vs w Kv h => by
  unfold z29_S at h
  split at h
  . have h := h.out
    rw [z29_e] at h
    exact calls_sound (Γ := z29_E) progMixed ⟨.inl z18_ok, trivial⟩ Tryz.func117 (code := z29_C) (by kernel_rfl) (z29_A Kv) Kv (holds_all (z29_h Kv)) (Nat.le_of_ble_eq_true (by kernel_rfl)) h
  . exact h.elim⟩
/-! ratio_checked -/
def z0n_sd (a_0_0 a_0_1 : Int) (b_1_0 b_1_1 : Int) (run_2 : Value) (K : Pw.T3) (w : World) : Prop :=
  let w1 := w.alloc (Obj.cells #[(Value.int .i64 a_0_0), (Value.int .i64 a_0_1)] 44)
  let w2 := w1.alloc (Obj.cells #[(Value.int .i64 b_1_0), (Value.int .i64 b_1_1)] 44)
  let w3 := w2.alloc (Obj.cells #[(Value.int .i64 0), (Value.int .i64 0)] 44)
  ∃ x4 : Int, w3.cell? (Addr.mk w.heap.size 0 none) = some (Value.int .i64 x4) /\ ∃ x5 : Int, w3.cell? (Addr.mk w.heap.size 1 none) = some (Value.int .i64 x5) /\ ∃ x6 : Int, w3.cell? (Addr.mk w1.heap.size 0 none) = some (Value.int .i64 x6) /\ ∃ x7 : Int, w3.cell? (Addr.mk w1.heap.size 1 none) = some (Value.int .i64 x7) /\ z1d_sh x4 x5 x6 x7 (fun r9 w8 => cnd (!r9)
    (z1e_sh (fun r11_0 r11_1 w10 => wrOk w10 (Addr.mk w2.heap.size 0 none) /\ 
  (let w12 := w10.setCell (Addr.mk w2.heap.size 0 none) (Value.int .i64 r11_0)
  wrOk w12 (Addr.mk w2.heap.size 1 none) /\ 
  (let w13 := w12.setCell (Addr.mk w2.heap.size 1 none) (Value.int .i64 r11_1)
  ∃ x14 : Int, w13.cell? (Addr.mk w2.heap.size 0 none) = some (Value.int .i64 x14) /\ ∃ x15 : Int, w13.cell? (Addr.mk w2.heap.size 1 none) = some (Value.int .i64 x15) /\ K x14 x15 false w13))) w8)
    (let w16 := w8.drew
  ∃ S17 : World -> Prop, S17 w16 /\ ∃ x18 : Int, (∀ w' : World, S17 w' -> w'.cell? (Addr.mk w.heap.size 0 none) = some (Value.int .i64 x18)) /\ ∃ x19 : Int, (∀ w' : World, S17 w' -> w'.cell? (Addr.mk w.heap.size 1 none) = some (Value.int .i64 x19)) /\ ∃ x20 : Int, (∀ w' : World, S17 w' -> w'.cell? (Addr.mk w1.heap.size 0 none) = some (Value.int .i64 x20)) /\ ∃ x21 : Int, (∀ w' : World, S17 w' -> w'.cell? (Addr.mk w1.heap.size 1 none) = some (Value.int .i64 x21)) /\ z29_sh x18 x19 (fun r23_0 r23_1 r23_2 w22 => S17 w22 /\ z29_sh x20 x21 (fun r25_0 r25_1 r25_2 w24 => S17 w24 /\ CallV Tryz.prog run_2 [(Value.agg #[(Value.bool r23_0), (Value.int .u64 r23_1), (Value.int .u64 r23_2)]), (Value.agg #[(Value.bool r25_0), (Value.int .u64 r25_1), (Value.int .u64 r25_2)])] w24 fun u26 w27 => ∃ x29 : Int, ∃ x30 : Int, ∃ x31 : Bool, u26 = (Value.tuple #[(Value.agg #[(Value.int .i64 x29), (Value.int .i64 x30)]), (Value.bool x31)]) /\ S17 w27 /\ wrOk w27 (Addr.mk w2.heap.size 0 none) /\ 
  (let w32 := w27.setCell (Addr.mk w2.heap.size 0 none) (Value.int .i64 x29)
  wrOk w32 (Addr.mk w2.heap.size 1 none) /\ 
  (let w33 := w32.setCell (Addr.mk w2.heap.size 1 none) (Value.int .i64 x30)
  ∃ x34 : Int, w33.cell? (Addr.mk w2.heap.size 0 none) = some (Value.int .i64 x34) /\ ∃ x35 : Int, w33.cell? (Addr.mk w2.heap.size 1 none) = some (Value.int .i64 x35) /\ K x34 x35 x31 w33))) w22) w16)) w3
structure z0n_sh (a_0_0 a_0_1 : Int) (b_1_0 b_1_1 : Int) (run_2 : Value) (K : Pw.T3) (w : World) : Prop where
  out : z0n_sd a_0_0 a_0_1 b_1_0 b_1_1 run_2 K w
noncomputable def z0n_S : Pw.Spec := fun vs w Kv =>
  match vs with
  | [.agg ⟨[.int .i64 a_0_0, .int .i64 a_0_1]⟩, .agg ⟨[.int .i64 b_1_0, .int .i64 b_1_1]⟩, run_2] => z0n_sh a_0_0 a_0_1 b_1_0 b_1_1 run_2 (Pw.kR Kv) w
  | _ => False
noncomputable def z0n_E : Pw.Env := [(110, z1e_S), (116, z1d_S), (117, z29_S)]
noncomputable def z0n_C : Code := (Tryz.f113.body).getD .skip
noncomputable def z0n_A (_Kv : VW) : Pw.A :=
  (A.seq (A.reg (Pw.rn 4 RA.done))
   (A.seq (A.seq (A.reg (Pw.rn 4 RA.done))
   (A.cond (A.seq (A.reg (Pw.rn 3 RA.done))
   A.leaf)
   A.leaf))
   (A.seq (A.drw (DA.pur 0 (DA.pur 1 (DA.pur 3 (DA.eff 2 (DA.eff 4 (DA.dyn 5 (Value.tuple #[(Value.agg #[(Value.int .i64 0), (Value.int .i64 0)]), (Value.bool false)]) (DA.pur 6 (DA.pur 7 (DA.eff 8 (DA.pur 9 DA.done)))))))))))
   A.leaf)))
noncomputable def z0n_O (Kv : VW) : List Ob := (obs Tryz.prog z0n_E 21 (z0n_A Kv) z0n_C (fun _ => retQ Tryz.prog Tryz.f113.results Kv))
theorem z0n_e (Kv : VW) (a_0_0 a_0_1 : Int) (b_1_0 b_1_1 : Int) (run_2 : Value) (w : World) : z0n_sd a_0_0 a_0_1 b_1_0 b_1_1 run_2 (Pw.kR Kv) w = W Tryz.prog z0n_E 21 (z0n_A Kv) z0n_C [] (retQ Tryz.prog Tryz.f113.results Kv) [] (startS [(Value.agg #[(Value.int .i64 a_0_0), (Value.int .i64 a_0_1)]), (Value.agg #[(Value.int .i64 b_1_0), (Value.int .i64 b_1_1)]), run_2]) w := by kernel_rfl
theorem z0n_n (Kv : VW) : obAt (z0n_O Kv) 0 = none := by kernel_rfl
theorem z0n_h (Kv : VW) : ∀ k, holdsAt Tryz.prog z0n_E 21 (z0n_O Kv) k := fun _ => holdsAt_ge (z0n_n Kv) (Nat.zero_le _)
theorem z0n_ok : Sound Tryz.prog 113 z0n_S := ⟨Tryz.call113, fun vs w Kv h => by
  unfold z0n_S at h
  split at h
  . have h := h.out
    rw [z0n_e] at h
    exact calls_sound (Γ := z0n_E) progMixed ⟨.inl z1e_ok, .inl z1d_ok, .inl z29_ok, trivial⟩ Tryz.func113 (code := z0n_C) (by kernel_rfl) (z0n_A Kv) Kv (holds_all (z0n_h Kv)) (Nat.le_of_ble_eq_true (by kernel_rfl)) h
  . exact h.elim⟩
/-! ratio_product -/
def z0p_sd (a_0 b_1 : Int) (K : Pw.T2) (w : World) : Prop :=
  let w1 := w.alloc (Obj.cells #[(Value.int .u64 0), (Value.int .u64 0)] 144)
  z1m_sh a_0 b_1 (fun r3 r4 w2 => wrOk w2 (Addr.mk w.heap.size 0 none) /\ 
  (let w5 := w2.setCell (Addr.mk w.heap.size 0 none) (Value.int .u64 r3)
  wrOk w5 (Addr.mk w.heap.size 1 none) /\ 
  (let w6 := w5.setCell (Addr.mk w.heap.size 1 none) (Value.int .u64 r4)
  ∃ x7 : Int, w6.cell? (Addr.mk w.heap.size 0 none) = some (Value.int .u64 x7) /\ ∃ x8 : Int, w6.cell? (Addr.mk w.heap.size 1 none) = some (Value.int .u64 x8) /\ K x7 x8 w6))) w1
structure z0p_sh (a_0 b_1 : Int) (K : Pw.T2) (w : World) : Prop where
  out : z0p_sd a_0 b_1 K w
noncomputable def z0p_S : Pw.Spec := fun vs w Kv =>
  match vs with
  | [.int .u64 a_0, .int .u64 b_1] => z0p_sh a_0 b_1 (fun r0_0 r0_1 w' => Kv (Value.agg #[(Value.int .u64 r0_0), (Value.int .u64 r0_1)]) w') w
  | _ => False
noncomputable def z0p_E : Pw.Env := [(80, z1m_S)]
noncomputable def z0p_C : Code := (Tryz.f119.body).getD .skip
noncomputable def z0p_A (_Kv : VW) : Pw.A :=
  (A.seq (A.reg (RA.run RA.done))
   (A.seq (A.reg (Pw.rn 8 RA.done))
   (A.seq (A.reg (Pw.rn 4 RA.done))
   A.leaf)))
noncomputable def z0p_O (Kv : VW) : List Ob := (obs Tryz.prog z0p_E 16 (z0p_A Kv) z0p_C (fun _ => retQ Tryz.prog Tryz.f119.results Kv))
theorem z0p_e (Kv : VW) (a_0 b_1 : Int) (w : World) : z0p_sd a_0 b_1 (fun r0_0 r0_1 w' => Kv (Value.agg #[(Value.int .u64 r0_0), (Value.int .u64 r0_1)]) w') w = W Tryz.prog z0p_E 16 (z0p_A Kv) z0p_C [] (retQ Tryz.prog Tryz.f119.results Kv) [] (startS [(Value.int .u64 a_0), (Value.int .u64 b_1)]) w := by kernel_rfl
theorem z0p_n (Kv : VW) : obAt (z0p_O Kv) 0 = none := by kernel_rfl
theorem z0p_h (Kv : VW) : ∀ k, holdsAt Tryz.prog z0p_E 16 (z0p_O Kv) k := fun _ => holdsAt_ge (z0p_n Kv) (Nat.zero_le _)
theorem z0p_ok : Sound Tryz.prog 119 z0p_S := ⟨Tryz.call119, fun vs w Kv h => by
  unfold z0p_S at h
  split at h
  . have h := h.out
    rw [z0p_e] at h
    exact calls_sound (Γ := z0p_E) progMixed ⟨.inl z1m_ok, trivial⟩ Tryz.func119 (code := z0p_C) (by kernel_rfl) (z0p_A Kv) Kv (holds_all (z0p_h Kv)) (Nat.le_of_ble_eq_true (by kernel_rfl)) h
  . exact h.elim⟩
/-! ratio_times -/
def z0z_k0d (t_4 : Addr) (K : Pw.T3) (w : World) : Prop :=
  z1e_sh (fun r7_0 r7_1 w6 => wrOk w6 t_4 /\ 
  (let w8 := w6.setCell t_4 (Value.int .i64 r7_0)
  wrOk w8 (t_4.add 1) /\ 
  (let w9 := w8.setCell (t_4.add 1) (Value.int .i64 r7_1)
  ∃ x10 : Int, w9.cell? t_4 = some (Value.int .i64 x10) /\ ∃ x11 : Int, w9.cell? (t_4.add 1) = some (Value.int .i64 x11) /\ K x10 x11 true w9))) w
structure z0z_k0 (t_4 : Addr) (K : Pw.T3) (w : World) : Prop where
  out : z0z_k0d t_4 K w
def z0z_sd (x_0_0 : Bool) (x_0_1 x_0_2 : Int) (y_1_0 : Bool) (y_1_1 y_1_2 : Int) (K : Pw.T3) (w : World) : Prop :=
  let w1 := w.alloc (Obj.cells #[(Value.bool x_0_0), (Value.int .u64 x_0_1), (Value.int .u64 x_0_2)] 137)
  let w2 := w1.alloc (Obj.cells #[(Value.bool y_1_0), (Value.int .u64 y_1_1), (Value.int .u64 y_1_2)] 137)
  let w3 := w2.alloc (Obj.cells #[(Value.int .i64 0), (Value.int .i64 0)] 44)
  ∃ x4 : Int, w3.cell? (Addr.mk w.heap.size 1 none) = some (Value.int .u64 x4) /\ cnd (x4 == (0 : Int))
    (z0z_k0 (Addr.mk w2.heap.size 0 none) K w3)
    (∃ x5 : Int, w3.cell? (Addr.mk w1.heap.size 1 none) = some (Value.int .u64 x5) /\ cnd (x5 == (0 : Int))
    (z0z_k0 (Addr.mk w2.heap.size 0 none) K w3)
    (let w12 := w3.drew
  ∃ S13 : World -> Prop, S13 w12 /\ ∃ x14 : Int, (∀ w' : World, S13 w' -> w'.cell? (Addr.mk w.heap.size 1 none) = some (Value.int .u64 x14)) /\ ∃ x15 : Int, (∀ w' : World, S13 w' -> w'.cell? (Addr.mk w1.heap.size 2 none) = some (Value.int .u64 x15)) /\ ∃ x16 : Int, (∀ w' : World, S13 w' -> w'.cell? (Addr.mk w1.heap.size 1 none) = some (Value.int .u64 x16)) /\ ∃ x17 : Int, (∀ w' : World, S13 w' -> w'.cell? (Addr.mk w.heap.size 2 none) = some (Value.int .u64 x17)) /\ z1t_sh x14 x15 (fun r19 w18 => S13 w18 /\ z1t_sh x16 x17 (fun r21 w20 => S13 w20 /\ let w22 := w20.drew
  ∃ S23 : World -> Prop, S23 w22 /\ ∃ x24 : Bool, (∀ w' : World, S23 w' -> w'.cell? (Addr.mk w.heap.size 0 none) = some (Value.bool x24)) /\ ∃ x25 : Bool, (∀ w' : World, S23 w' -> w'.cell? (Addr.mk w1.heap.size 0 none) = some (Value.bool x25)) /\ ∃ x26 : Int, (∀ w' : World, S23 w' -> w'.cell? (Addr.mk w.heap.size 1 none) = some (Value.int .u64 x26)) /\ r19 ≠ 0 /\ inR .u64 (Int.tdiv x26 r19) /\ ∃ x27 : Int, (∀ w' : World, S23 w' -> w'.cell? (Addr.mk w1.heap.size 1 none) = some (Value.int .u64 x27)) /\ r21 ≠ 0 /\ inR .u64 (Int.tdiv x27 r21) /\ ∃ x28 : Int, (∀ w' : World, S23 w' -> w'.cell? (Addr.mk w.heap.size 2 none) = some (Value.int .u64 x28)) /\ r21 ≠ 0 /\ inR .u64 (Int.tdiv x28 r21) /\ ∃ x29 : Int, (∀ w' : World, S23 w' -> w'.cell? (Addr.mk w1.heap.size 2 none) = some (Value.int .u64 x29)) /\ r19 ≠ 0 /\ inR .u64 (Int.tdiv x29 r19) /\ z0p_sh (Int.tdiv x26 r19) (Int.tdiv x27 r21) (fun r31_0 r31_1 w30 => S23 w30 /\ z0p_sh (Int.tdiv x28 r21) (Int.tdiv x29 r19) (fun r33_0 r33_1 w32 => S23 w32 /\ z1z_sh (!(x24 == x25)) r31_0 r31_1 r33_0 r33_1 (fun r35_0 r35_1 r36 w34 => S23 w34 /\ wrOk w34 (Addr.mk w2.heap.size 0 none) /\ 
  (let w37 := w34.setCell (Addr.mk w2.heap.size 0 none) (Value.int .i64 r35_0)
  wrOk w37 (Addr.mk w2.heap.size 1 none) /\ 
  (let w38 := w37.setCell (Addr.mk w2.heap.size 1 none) (Value.int .i64 r35_1)
  ∃ x39 : Int, w38.cell? (Addr.mk w2.heap.size 0 none) = some (Value.int .i64 x39) /\ ∃ x40 : Int, w38.cell? (Addr.mk w2.heap.size 1 none) = some (Value.int .i64 x40) /\ K x39 x40 r36 w38))) w32) w30) w22) w18) w12))
structure z0z_sh (x_0_0 : Bool) (x_0_1 x_0_2 : Int) (y_1_0 : Bool) (y_1_1 y_1_2 : Int) (K : Pw.T3) (w : World) : Prop where
  out : z0z_sd x_0_0 x_0_1 x_0_2 y_1_0 y_1_1 y_1_2 K w
def z0z_P0 (Kv : VW) (ρ : Rho) (vs : List Value) (w : World) : Prop :=
  match ρ, vs with
  | _, [.pointer (some t_4)] => z0z_k0 t_4 (Pw.kR Kv) w
  | _, _ => False
noncomputable def z0z_S : Pw.Spec := fun vs w Kv =>
  match vs with
  | [.agg ⟨[.bool x_0_0, .int .u64 x_0_1, .int .u64 x_0_2]⟩, .agg ⟨[.bool y_1_0, .int .u64 y_1_1, .int .u64 y_1_2]⟩] => z0z_sh x_0_0 x_0_1 x_0_2 y_1_0 y_1_1 y_1_2 (Pw.kR Kv) w
  | _ => False
noncomputable def z0z_E : Pw.Env := [(110, z1e_S), (119, z0p_S), (131, z1t_S), (132, z1z_S)]
noncomputable def z0z_C : Code := (Tryz.f114.body).getD .skip
noncomputable def z0z_A (Kv : VW) : Pw.A :=
  (A.seq (A.reg (Pw.rn 4 RA.done))
   (A.seq (A.seq (A.reg (Pw.rn 4 (RA.spl 11 (Pw.sk 3 (RA.run RA.done)) (Pw.rn 4 RA.done))))
   (A.cond (A.cut [4] (z0z_P0 Kv) (A.seq (A.reg (Pw.rn 3 RA.done))
   A.leaf))
   A.leaf))
   (A.seq (A.drw (DA.pur 0 (DA.pur 1 (DA.pur 2 (DA.pur 3 (DA.pur 5 (DA.pur 6 (DA.pur 7 (DA.pur 8 (DA.eff 4 (DA.eff 9 (DA.pur 10 (DA.pur 11 DA.done)))))))))))))
   (A.seq (A.drw (DA.pur 0 (DA.pur 1 (DA.pur 2 (DA.pur 3 (DA.pur 4 (DA.pur 5 (DA.pur 6 (DA.pur 7 (DA.pur 8 (DA.pur 9 (DA.pur 10 (DA.pur 11 (DA.pur 12 (DA.pur 14 (DA.pur 15 (DA.pur 16 (DA.pur 17 (DA.pur 18 (DA.pur 19 (DA.pur 20 (DA.pur 21 (DA.eff 13 (DA.eff 22 (DA.eff 23 (DA.pur 24 (DA.pur 25 (DA.eff 26 (DA.pur 27 DA.done)))))))))))))))))))))))))))))
   A.leaf))))
noncomputable def z0z_O (Kv : VW) : List Ob := (obs Tryz.prog z0z_E 53 (z0z_A Kv) z0z_C (fun _ => retQ Tryz.prog Tryz.f114.results Kv))
theorem z0z_e (Kv : VW) (x_0_0 : Bool) (x_0_1 x_0_2 : Int) (y_1_0 : Bool) (y_1_1 y_1_2 : Int) (w : World) : z0z_sd x_0_0 x_0_1 x_0_2 y_1_0 y_1_1 y_1_2 (Pw.kR Kv) w = W Tryz.prog z0z_E 53 (z0z_A Kv) z0z_C [] (retQ Tryz.prog Tryz.f114.results Kv) [] (startS [(Value.agg #[(Value.bool x_0_0), (Value.int .u64 x_0_1), (Value.int .u64 x_0_2)]), (Value.agg #[(Value.bool y_1_0), (Value.int .u64 y_1_1), (Value.int .u64 y_1_2)])]) w := by kernel_rfl
theorem z0z_e0 (Kv : VW) (ρ : Rho) (t_4 : Addr) (w : World) : z0z_k0d t_4 (Pw.kR Kv) w = goalAt Tryz.prog z0z_E 53 (z0z_O Kv) 0 (ρ) [(Value.pointer (some t_4))] w := by kernel_rfl
theorem z0z_q0 (Kv : VW) (ρ : Rho) (vs : List Value) (w : World) : labAt (z0z_O Kv) 0 ρ vs w = z0z_P0 Kv ρ vs w := by kernel_rfl
theorem z0z_h0 (Kv : VW) : holdsAt Tryz.prog z0z_E 53 (z0z_O Kv) 0 := holdsAt_cut (.inl (by kernel_rfl)) (fun ρ vs w h => by
  rw [z0z_q0] at h
  unfold z0z_P0 at h
  split at h
  . rw [← z0z_e0]; exact h.out
  . exact h.elim)
theorem z0z_n (Kv : VW) : obAt (z0z_O Kv) 1 = none := by kernel_rfl
theorem z0z_h (Kv : VW) : ∀ k, holdsAt Tryz.prog z0z_E 53 (z0z_O Kv) k := fun k => match k with
  | 0 => z0z_h0 Kv
  | _k + 1 => holdsAt_ge (z0z_n Kv) (Nat.le_add_left _ _)
theorem z0z_ok : Sound Tryz.prog 114 z0z_S := ⟨Tryz.call114, fun vs w Kv h => by
  unfold z0z_S at h
  split at h
  . have h := h.out
    rw [z0z_e] at h
    exact calls_sound (Γ := z0z_E) progMixed ⟨.inl z1e_ok, .inl z0p_ok, .inl z1t_ok, .inl z1z_ok, trivial⟩ Tryz.func114 (code := z0z_C) (by kernel_rfl) (z0z_A Kv) Kv (holds_all (z0z_h Kv)) (Nat.le_of_ble_eq_true (by kernel_rfl)) h
  . exact h.elim⟩
/-! ratio_Mul -/
def z1x_sd (a_0_0 a_0_1 : Int) (b_1_0 b_1_1 : Int) (K : Pw.T3) (w : World) : Prop :=
  let w1 := w.alloc (Obj.cells #[(Value.int .i64 a_0_0), (Value.int .i64 a_0_1)] 44)
  let w2 := w1.alloc (Obj.cells #[(Value.int .i64 b_1_0), (Value.int .i64 b_1_1)] 44)
  let w3 := w2.alloc (Obj.cells #[(Value.int .i64 0), (Value.int .i64 0)] 44)
  ∃ x4 : Int, w3.cell? (Addr.mk w.heap.size 0 none) = some (Value.int .i64 x4) /\ ∃ x5 : Int, w3.cell? (Addr.mk w.heap.size 1 none) = some (Value.int .i64 x5) /\ ∃ x6 : Int, w3.cell? (Addr.mk w1.heap.size 0 none) = some (Value.int .i64 x6) /\ ∃ x7 : Int, w3.cell? (Addr.mk w1.heap.size 1 none) = some (Value.int .i64 x7) /\ z0n_sh x4 x5 x6 x7 (Value.func (.func 114) #[] #[]) (fun r9_0 r9_1 r10 w8 => wrOk w8 (Addr.mk w2.heap.size 0 none) /\ 
  (let w11 := w8.setCell (Addr.mk w2.heap.size 0 none) (Value.int .i64 r9_0)
  wrOk w11 (Addr.mk w2.heap.size 1 none) /\ 
  (let w12 := w11.setCell (Addr.mk w2.heap.size 1 none) (Value.int .i64 r9_1)
  ∃ x13 : Int, w12.cell? (Addr.mk w2.heap.size 0 none) = some (Value.int .i64 x13) /\ ∃ x14 : Int, w12.cell? (Addr.mk w2.heap.size 1 none) = some (Value.int .i64 x14) /\ K x13 x14 r10 w12))) w3
structure z1x_sh (a_0_0 a_0_1 : Int) (b_1_0 b_1_1 : Int) (K : Pw.T3) (w : World) : Prop where
  out : z1x_sd a_0_0 a_0_1 b_1_0 b_1_1 K w
noncomputable def z1x_S : Pw.Spec := fun vs w Kv =>
  match vs with
  | [.agg ⟨[.int .i64 a_0_0, .int .i64 a_0_1]⟩, .agg ⟨[.int .i64 b_1_0, .int .i64 b_1_1]⟩] => z1x_sh a_0_0 a_0_1 b_1_0 b_1_1 (Pw.kR Kv) w
  | _ => False
noncomputable def z1x_E : Pw.Env := [(113, z0n_S)]
noncomputable def z1x_C : Code := (Tryz.f99.body).getD .skip
noncomputable def z1x_A (_Kv : VW) : Pw.A :=
  (A.seq (A.reg (Pw.rn 4 RA.done))
   (A.seq (A.reg (Pw.rn 7 RA.done))
   A.leaf))
noncomputable def z1x_O (Kv : VW) : List Ob := (obs Tryz.prog z1x_E 11 (z1x_A Kv) z1x_C (fun _ => retQ Tryz.prog Tryz.f99.results Kv))
theorem z1x_e (Kv : VW) (a_0_0 a_0_1 : Int) (b_1_0 b_1_1 : Int) (w : World) : z1x_sd a_0_0 a_0_1 b_1_0 b_1_1 (Pw.kR Kv) w = W Tryz.prog z1x_E 11 (z1x_A Kv) z1x_C [] (retQ Tryz.prog Tryz.f99.results Kv) [] (startS [(Value.agg #[(Value.int .i64 a_0_0), (Value.int .i64 a_0_1)]), (Value.agg #[(Value.int .i64 b_1_0), (Value.int .i64 b_1_1)])]) w := by kernel_rfl
theorem z1x_n (Kv : VW) : obAt (z1x_O Kv) 0 = none := by kernel_rfl
theorem z1x_h (Kv : VW) : ∀ k, holdsAt Tryz.prog z1x_E 11 (z1x_O Kv) k := fun _ => holdsAt_ge (z1x_n Kv) (Nat.zero_le _)
theorem z1x_ok : Sound Tryz.prog 99 z1x_S := ⟨Tryz.call99, fun vs w Kv h => by
  unfold z1x_S at h
  split at h
  . have h := h.out
    rw [z1x_e] at h
    exact calls_sound (Γ := z1x_E) progMixed ⟨.inl z0n_ok, trivial⟩ Tryz.func99 (code := z1x_C) (by kernel_rfl) (z1x_A Kv) Kv (holds_all (z1x_h Kv)) (Nat.le_of_ble_eq_true (by kernel_rfl)) h
  . exact h.elim⟩
structure bits_Add64_sh (a b c : Int) (K : Pw.T2) (w : World) : Prop where
  out : (0 <= a /\ a < 18446744073709551616 /\ 0 <= b /\ b < 18446744073709551616 /\ 0 <= c /\ c <= 1) /\ K ((a + b + c) % 18446744073709551616) ((a + b + c) / 18446744073709551616) w
noncomputable def bits_Add64_S : Pw.Spec := fun vs w Kv =>
  match vs with
  | [.int .u64 a, .int .u64 b, .int .u64 c] => bits_Add64_sh a b c (fun (r s : Int) (w' : World) => Kv (Value.tuple #[Value.int .u64 r, Value.int .u64 s]) w') w
  | _ => False
theorem bits_Add64_ok : SoundX Tryz.prog 144 bits_Add64_S := fun vs w Kv h => by
  unfold bits_Add64_S at h
  split at h
  . rename_i a b c
    obtain ⟨⟨ha, ha', hb, hb', hc, hc'⟩, hk⟩ := h.out
    exact bits_Add64_run Tryz.func144 (by kernel_rfl) (by kernel_rfl) (by kernel_rfl) (by kernel_rfl) ha ha' hb hb' hc hc' hk
  . exact h.elim
/-! ratio_wide_add -/
def z0l_sd (a_0_0 a_0_1 : Int) (b_1_0 b_1_1 : Int) (K : Pw.T2) (w : World) : Prop :=
  let w1 := w.alloc (Obj.cells #[(Value.int .u64 a_0_0), (Value.int .u64 a_0_1)] 144)
  let w2 := w1.alloc (Obj.cells #[(Value.int .u64 b_1_0), (Value.int .u64 b_1_1)] 144)
  let w3 := w2.alloc (Obj.cells #[(Value.int .u64 0), (Value.int .u64 0)] 144)
  ∃ x4 : Int, w3.cell? (Addr.mk w.heap.size 1 none) = some (Value.int .u64 x4) /\ ∃ x5 : Int, w3.cell? (Addr.mk w1.heap.size 1 none) = some (Value.int .u64 x5) /\ bits_Add64_sh x4 x5 (0 : Int) (fun r7 r8 w6 => ∃ x9 : Int, w6.cell? (Addr.mk w.heap.size 0 none) = some (Value.int .u64 x9) /\ ∃ x10 : Int, w6.cell? (Addr.mk w1.heap.size 0 none) = some (Value.int .u64 x10) /\ bits_Add64_sh x9 x10 r8 (fun r12 _r13 w11 => wrOk w11 (Addr.mk w2.heap.size 0 none) /\ 
  (let w14 := w11.setCell (Addr.mk w2.heap.size 0 none) (Value.int .u64 r12)
  wrOk w14 (Addr.mk w2.heap.size 1 none) /\ 
  (let w15 := w14.setCell (Addr.mk w2.heap.size 1 none) (Value.int .u64 r7)
  ∃ x16 : Int, w15.cell? (Addr.mk w2.heap.size 0 none) = some (Value.int .u64 x16) /\ ∃ x17 : Int, w15.cell? (Addr.mk w2.heap.size 1 none) = some (Value.int .u64 x17) /\ K x16 x17 w15))) w6) w3
structure z0l_sh (a_0_0 a_0_1 : Int) (b_1_0 b_1_1 : Int) (K : Pw.T2) (w : World) : Prop where
  out : z0l_sd a_0_0 a_0_1 b_1_0 b_1_1 K w
noncomputable def z0l_S : Pw.Spec := fun vs w Kv =>
  match vs with
  | [.agg ⟨[.int .u64 a_0_0, .int .u64 a_0_1]⟩, .agg ⟨[.int .u64 b_1_0, .int .u64 b_1_1]⟩] => z0l_sh a_0_0 a_0_1 b_1_0 b_1_1 (fun r0_0 r0_1 w' => Kv (Value.agg #[(Value.int .u64 r0_0), (Value.int .u64 r0_1)]) w') w
  | _ => False
noncomputable def z0l_E : Pw.Env := [(144, bits_Add64_S)]
noncomputable def z0l_C : Code := (Tryz.f133.body).getD .skip
noncomputable def z0l_A (_Kv : VW) : Pw.A :=
  (A.seq (A.reg (Pw.rn 3 RA.done))
   (A.seq (A.reg (Pw.rn 10 RA.done))
   (A.seq (A.reg (Pw.rn 11 RA.done))
   (A.seq (A.reg (Pw.rn 4 RA.done))
   A.leaf))))
noncomputable def z0l_O (Kv : VW) : List Ob := (obs Tryz.prog z0l_E 29 (z0l_A Kv) z0l_C (fun _ => retQ Tryz.prog Tryz.f133.results Kv))
theorem z0l_e (Kv : VW) (a_0_0 a_0_1 : Int) (b_1_0 b_1_1 : Int) (w : World) : z0l_sd a_0_0 a_0_1 b_1_0 b_1_1 (fun r0_0 r0_1 w' => Kv (Value.agg #[(Value.int .u64 r0_0), (Value.int .u64 r0_1)]) w') w = W Tryz.prog z0l_E 29 (z0l_A Kv) z0l_C [] (retQ Tryz.prog Tryz.f133.results Kv) [] (startS [(Value.agg #[(Value.int .u64 a_0_0), (Value.int .u64 a_0_1)]), (Value.agg #[(Value.int .u64 b_1_0), (Value.int .u64 b_1_1)])]) w := by kernel_rfl
theorem z0l_n (Kv : VW) : obAt (z0l_O Kv) 0 = none := by kernel_rfl
theorem z0l_h (Kv : VW) : ∀ k, holdsAt Tryz.prog z0l_E 29 (z0l_O Kv) k := fun _ => holdsAt_ge (z0l_n Kv) (Nat.zero_le _)
theorem z0l_ok : Sound Tryz.prog 133 z0l_S := ⟨Tryz.call133, fun vs w Kv h => by
  unfold z0l_S at h
  split at h
  . have h := h.out
    rw [z0l_e] at h
    exact calls_sound (Γ := z0l_E) progMixed ⟨.inr bits_Add64_ok, trivial⟩ Tryz.func133 (code := z0l_C) (by kernel_rfl) (z0l_A Kv) Kv (holds_all (z0l_h Kv)) (Nat.le_of_ble_eq_true (by kernel_rfl)) h
  . exact h.elim⟩
/-! z27_uint64 -/
def z0b_sd (x_0 : Int) (K : Pw.T0) (w : World) : Prop :=
  K (x_0 != x_0) w
structure z0b_sh (x_0 : Int) (K : Pw.T0) (w : World) : Prop where
  out : z0b_sd x_0 K w
noncomputable def z0b_S : Pw.Spec := fun vs w Kv =>
  match vs with
  | [.int .u64 x_0] => z0b_sh x_0 (Pw.kB Kv) w
  | _ => False
noncomputable def z0b_E : Pw.Env := []
noncomputable def z0b_C : Code := (Tryz.f147.body).getD .skip
noncomputable def z0b_A (_Kv : VW) : Pw.A :=
  (A.seq (A.reg (RA.run RA.done))
   (A.seq (A.reg (Pw.rn 4 RA.done))
   A.leaf))
noncomputable def z0b_O (Kv : VW) : List Ob := (obs Tryz.prog z0b_E 6 (z0b_A Kv) z0b_C (fun _ => retQ Tryz.prog Tryz.f147.results Kv))
theorem z0b_e (Kv : VW) (x_0 : Int) (w : World) : z0b_sd x_0 (Pw.kB Kv) w = W Tryz.prog z0b_E 6 (z0b_A Kv) z0b_C [] (retQ Tryz.prog Tryz.f147.results Kv) [] (startS [(Value.int .u64 x_0)]) w := by kernel_rfl
theorem z0b_n (Kv : VW) : obAt (z0b_O Kv) 0 = none := by kernel_rfl
theorem z0b_h (Kv : VW) : ∀ k, holdsAt Tryz.prog z0b_E 6 (z0b_O Kv) k := fun _ => holdsAt_ge (z0b_n Kv) (Nat.zero_le _)
theorem z0b_ok : Sound Tryz.prog 147 z0b_S := ⟨Tryz.call147, fun vs w Kv h => by
  unfold z0b_S at h
  split at h
  . have h := h.out
    rw [z0b_e] at h
    exact calls_sound (Γ := z0b_E) progMixed trivial Tryz.func147 (code := z0b_C) (by kernel_rfl) (z0b_A Kv) Kv (holds_all (z0b_h Kv)) (Nat.le_of_ble_eq_true (by kernel_rfl)) h
  . exact h.elim⟩
/-! z0w_uint64 -/
def z07_sd (x_0 y_1 : Int) (K : Pw.T1) (w : World) : Prop :=
  z0b_sh x_0 (fun r2 w1 => z0b_sh y_1 (fun r4 w3 => cnd r2
    (cnd r4
    (K (0 : Int) w3)
    (K (-1 : Int) w3))
    (cnd r4
    (K (1 : Int) w3)
    (cnd (decide (x_0 < y_1))
    (K (-1 : Int) w3)
    (cnd (decide (x_0 > y_1))
    (K (1 : Int) w3)
    (K (0 : Int) w3))))) w1) w
structure z07_sh (x_0 y_1 : Int) (K : Pw.T1) (w : World) : Prop where
  out : z07_sd x_0 y_1 K w
noncomputable def z07_S : Pw.Spec := fun vs w Kv =>
  match vs with
  | [.int .u64 x_0, .int .u64 y_1] => z07_sh x_0 y_1 (Pw.kI Kv) w
  | _ => False
noncomputable def z07_E : Pw.Env := [(147, z0b_S)]
noncomputable def z07_C : Code := (Tryz.f136.body).getD .skip
noncomputable def z07_A (_Kv : VW) : Pw.A :=
  (A.seq (A.reg (RA.run RA.done))
   (A.seq (A.reg (Pw.rn 3 RA.done))
   (A.seq (A.reg (Pw.rn 3 RA.done))
   (A.seq (A.seq (A.reg (RA.run RA.done))
   (A.cond (A.seq (A.seq (A.reg (RA.run RA.done))
   (A.cond (A.seq (A.reg (RA.run RA.done))
   A.leaf)
   A.leaf))
   (A.seq (A.reg (RA.run RA.done))
   A.leaf))
   A.leaf))
   (A.seq (A.seq (A.reg (RA.run RA.done))
   (A.cond (A.seq (A.reg (RA.run RA.done))
   A.leaf)
   A.leaf))
   (A.seq (A.seq (A.reg (Pw.rn 3 RA.done))
   (A.cond (A.seq (A.reg (RA.run RA.done))
   A.leaf)
   A.leaf))
   (A.seq (A.seq (A.reg (Pw.rn 3 RA.done))
   (A.cond (A.seq (A.reg (RA.run RA.done))
   A.leaf)
   A.leaf))
   (A.seq (A.reg (RA.run RA.done))
   A.leaf))))))))
noncomputable def z07_O (Kv : VW) : List Ob := (obs Tryz.prog z07_E 20 (z07_A Kv) z07_C (fun _ => retQ Tryz.prog Tryz.f136.results Kv))
theorem z07_e (Kv : VW) (x_0 y_1 : Int) (w : World) : z07_sd x_0 y_1 (Pw.kI Kv) w = W Tryz.prog z07_E 20 (z07_A Kv) z07_C [] (retQ Tryz.prog Tryz.f136.results Kv) [] (startS [(Value.int .u64 x_0), (Value.int .u64 y_1)]) w := by kernel_rfl
theorem z07_n (Kv : VW) : obAt (z07_O Kv) 0 = none := by kernel_rfl
theorem z07_h (Kv : VW) : ∀ k, holdsAt Tryz.prog z07_E 20 (z07_O Kv) k := fun _ => holdsAt_ge (z07_n Kv) (Nat.zero_le _)
theorem z07_ok : Sound Tryz.prog 136 z07_S := ⟨Tryz.call136, fun vs w Kv h => by
  unfold z07_S at h
  split at h
  . have h := h.out
    rw [z07_e] at h
    exact calls_sound (Γ := z07_E) progMixed ⟨.inl z0b_ok, trivial⟩ Tryz.func136 (code := z07_C) (by kernel_rfl) (z07_A Kv) Kv (holds_all (z07_h Kv)) (Nat.le_of_ble_eq_true (by kernel_rfl)) h
  . exact h.elim⟩
/-! cmp_Or -/
def z3j_b0 (zero_3 : Int) (t_6 : Sl) (t_7 t_8 : Int) (N0 : Int -> Sl -> Int -> Int -> World -> Prop) (K : Pw.T1) (w : World) : Prop :=
  cnd (decide (t_8 < t_7))
    (nz t_6.p fun a1 => (0 <= t_8 /\ t_8 < (t_6.l : Nat)) /\ ∃ x2 : Int, w.cell? (a1.add (t_8.toNat * 1)) = some (Value.int .i64 x2) /\ cnd (x2 != zero_3)
    (K x2 w)
    (inR .i64 (t_8 + (1 : Int)) /\ N0 zero_3 t_6 t_7 (t_8 + (1 : Int)) w))
    (K zero_3 w)
def z3j_l0d (zero_3 : Int) (t_6 : Sl) (t_7 t_8 : Int) (K : Pw.T1) (w : World) : Prop :=
  ∃ (I : Int -> World -> Prop) (μ : Int -> World -> Nat), I t_8 w /\ ∀ (t_81 : Int) (w1 : World), I t_81 w1 ->
    z3j_b0 zero_3 t_6 t_7 t_81 (fun zero_3' t_6' t_7' t_8' w' => ((zero_3' = zero_3 /\ t_6' = t_6 /\ t_7' = t_7 /\ True) /\ I t_8' w') /\ μ t_8' w' < μ t_81 w1) K w1
structure z3j_l0 (zero_3 : Int) (t_6 : Sl) (t_7 t_8 : Int) (K : Pw.T1) (w : World) : Prop where
  out : z3j_l0d zero_3 t_6 t_7 t_8 K w
def z3j_sd (vals_0 : Sl) (K : Pw.T1) (w : World) : Prop :=
  z3j_l0 (0 : Int) vals_0 (vals_0.l : Int) (0 : Int) K w
structure z3j_sh (vals_0 : Sl) (K : Pw.T1) (w : World) : Prop where
  out : z3j_sd vals_0 K w
def z3j_P0 (Kv : VW) (ρ : Rho) (vs : List Value) (w : World) : Prop :=
  match ρ, vs with
  | _, [.int .i64 zero_3, .slice t_6p t_6l t_6c, .int .i64 t_7, .int .i64 t_8] => z3j_l0 zero_3 ⟨t_6p, t_6l, t_6c⟩ t_7 t_8 (Pw.kI Kv) w
  | _, _ => False
noncomputable def z3j_S : Pw.Spec := fun vs w Kv =>
  match vs with
  | [.slice vals_0p vals_0l vals_0c] => z3j_sh ⟨vals_0p, vals_0l, vals_0c⟩ (Pw.kI Kv) w
  | _ => False
noncomputable def z3j_E : Pw.Env := []
noncomputable def z3j_C : Code := (Tryz.f67.body).getD .skip
noncomputable def z3j_A (Kv : VW) : Pw.A :=
  (A.seq (A.reg (RA.run RA.done))
   (A.seq (A.reg (RA.run RA.done))
   (A.seq (A.seq (A.reg (Pw.rn 3 RA.done))
   (A.blk (A.loop [3, 6, 7, 8] (z3j_P0 Kv) (A.seq (A.reg (RA.run RA.done))
   (A.seq (A.cond A.leaf
   A.leaf)
   (A.seq (A.blk (A.seq (A.reg (Pw.rn 3 RA.done))
   (A.seq (A.reg (Pw.rn 3 RA.done))
   (A.cond (A.seq (A.reg (Pw.rn 2 RA.done))
   A.leaf)
   A.leaf))))
   (A.reg (Pw.rn 2 RA.done))))))))
   (A.seq (A.reg (Pw.rn 2 RA.done))
   A.leaf))))
noncomputable def z3j_O (Kv : VW) : List Ob := (obs Tryz.prog z3j_E 18 (z3j_A Kv) z3j_C (fun _ => retQ Tryz.prog Tryz.f67.results Kv))
theorem z3j_e (Kv : VW) (vals_0p : Option Addr) (vals_0l vals_0c : Nat) (w : World) : z3j_sd ⟨vals_0p, vals_0l, vals_0c⟩ (Pw.kI Kv) w = W Tryz.prog z3j_E 18 (z3j_A Kv) z3j_C [] (retQ Tryz.prog Tryz.f67.results Kv) [] (startS [(Value.slice vals_0p vals_0l vals_0c)]) w := by kernel_rfl
theorem z3j_e0 (Kv : VW) (N0 : List Value -> World -> Prop) (ρ : Rho) (zero_3 : Int) (t_6p : Option Addr) (t_6l t_6c : Nat) (t_7 t_8 : Int) (w : World) : z3j_b0 zero_3 ⟨t_6p, t_6l, t_6c⟩ t_7 t_8 (fun zero_3' t_6' t_7' t_8' w' => N0 [(Value.int .i64 zero_3'), (Value.slice t_6'.p t_6'.l t_6'.c), (Value.int .i64 t_7'), (Value.int .i64 t_8')] w') (Pw.kI Kv) w = goalAt Tryz.prog z3j_E 18 (z3j_O Kv) 0 (N0 :: ρ) [(Value.int .i64 zero_3), (Value.slice t_6p t_6l t_6c), (Value.int .i64 t_7), (Value.int .i64 t_8)] w := by kernel_rfl
theorem z3j_q0 (Kv : VW) (ρ : Rho) (vs : List Value) (w : World) : labAt (z3j_O Kv) 0 ρ vs w = z3j_P0 Kv ρ vs w := by kernel_rfl
def z3j_I0 (zero_30 : Int) (t_60 : Sl) (t_70 : Int) (I : Int -> World -> Prop) (vs : List Value) (w : World) : Prop :=
  match vs with
  | [.int .i64 zero_3, .slice t_6p t_6l t_6c, .int .i64 t_7, .int .i64 t_8] => (zero_3 = zero_30 /\ ⟨t_6p, t_6l, t_6c⟩ = t_60 /\ t_7 = t_70 /\ True) /\ I t_8 w
  | _ => False
def z3j_M0 (μ : Int -> World -> Nat) (vs : List Value) (w : World) : Nat :=
  match vs with
  | [.int .i64 _zero_3, .slice _t_6p _t_6l _t_6c, .int .i64 _t_7, .int .i64 t_8] => μ t_8 w
  | _ => 0
theorem z3j_h0 (Kv : VW) : holdsAt Tryz.prog z3j_E 18 (z3j_O Kv) 0 := holdsAt_loop (by kernel_rfl) (fun ρ vs w h => by
  rw [z3j_q0] at h
  unfold z3j_P0 at h
  split at h
  . rename_i ρt zero_3 t_6p t_6l t_6c t_7 t_8
    obtain ⟨I, μ, h0, hr⟩ := h.out
    refine ⟨z3j_I0 zero_3 ⟨t_6p, t_6l, t_6c⟩ t_7 I, z3j_M0 μ, ⟨⟨rfl, rfl, rfl, trivial⟩, h0⟩, fun vs w hI => ?_⟩
    unfold z3j_I0 at hI
    split at hI
    . obtain ⟨⟨h0, h1, h2, _⟩, hI⟩ := hI
      cases h0; cases h1; cases h2
      rw [← z3j_e0]
      exact hr _ _ hI
    . exact hI.elim
  . exact h.elim)
theorem z3j_n (Kv : VW) : obAt (z3j_O Kv) 1 = none := by kernel_rfl
theorem z3j_h (Kv : VW) : ∀ k, holdsAt Tryz.prog z3j_E 18 (z3j_O Kv) k := fun k => match k with
  | 0 => z3j_h0 Kv
  | _k + 1 => holdsAt_ge (z3j_n Kv) (Nat.le_add_left _ _)
theorem z3j_ok : Sound Tryz.prog 67 z3j_S := ⟨Tryz.call67, fun vs w Kv h => by
  unfold z3j_S at h
  split at h
  . have h := h.out
    rw [z3j_e] at h
    exact calls_sound (Γ := z3j_E) progMixed trivial Tryz.func67 (code := z3j_C) (by kernel_rfl) (z3j_A Kv) Kv (holds_all (z3j_h Kv)) (Nat.le_of_ble_eq_true (by kernel_rfl)) h
  . exact h.elim⟩
/-! ratio_compare -/
def z0o_sd (a_0_0 a_0_1 : Int) (b_1_0 b_1_1 : Int) (K : Pw.T1) (w : World) : Prop :=
  let w1 := w.alloc (Obj.cells #[(Value.int .u64 a_0_0), (Value.int .u64 a_0_1)] 144)
  let w2 := w1.alloc (Obj.cells #[(Value.int .u64 b_1_0), (Value.int .u64 b_1_1)] 144)
  let w3 := w2.drew
  ∃ S4 : World -> Prop, S4 w3 /\ ∃ x5 : Int, (∀ w' : World, S4 w' -> w'.cell? (Addr.mk w.heap.size 0 none) = some (Value.int .u64 x5)) /\ ∃ x6 : Int, (∀ w' : World, S4 w' -> w'.cell? (Addr.mk w1.heap.size 0 none) = some (Value.int .u64 x6)) /\ ∃ x7 : Int, (∀ w' : World, S4 w' -> w'.cell? (Addr.mk w.heap.size 1 none) = some (Value.int .u64 x7)) /\ ∃ x8 : Int, (∀ w' : World, S4 w' -> w'.cell? (Addr.mk w1.heap.size 1 none) = some (Value.int .u64 x8)) /\ z07_sh x5 x6 (fun r10 w9 => S4 w9 /\ z07_sh x7 x8 (fun r12 w11 => S4 w11 /\ let w13 := w11.alloc (Obj.cells #[(Value.int .i64 r10), (Value.int .i64 r12)] 3)
  S4 w13 /\ z3j_sh (Sl.mk (some (Addr.mk w11.heap.size 0 none)) 2 2) (fun r15 w14 => S4 w14 /\ K r15 w14) w13) w9) w3
structure z0o_sh (a_0_0 a_0_1 : Int) (b_1_0 b_1_1 : Int) (K : Pw.T1) (w : World) : Prop where
  out : z0o_sd a_0_0 a_0_1 b_1_0 b_1_1 K w
noncomputable def z0o_S : Pw.Spec := fun vs w Kv =>
  match vs with
  | [.agg ⟨[.int .u64 a_0_0, .int .u64 a_0_1]⟩, .agg ⟨[.int .u64 b_1_0, .int .u64 b_1_1]⟩] => z0o_sh a_0_0 a_0_1 b_1_0 b_1_1 (Pw.kI Kv) w
  | _ => False
noncomputable def z0o_E : Pw.Env := [(67, z3j_S), (136, z07_S)]
noncomputable def z0o_C : Code := (Tryz.f118.body).getD .skip
noncomputable def z0o_A (_Kv : VW) : Pw.A :=
  (A.seq (A.reg (Pw.rn 3 RA.done))
   (A.seq (A.drw (DA.pur 0 (DA.pur 1 (DA.pur 2 (DA.pur 3 (DA.pur 5 (DA.pur 6 (DA.pur 7 (DA.pur 8 (DA.eff 4 (DA.eff 9 (DA.eff 10 (DA.eff 11 (DA.pur 12 DA.done))))))))))))))
   A.leaf))
noncomputable def z0o_O (Kv : VW) : List Ob := (obs Tryz.prog z0o_E 17 (z0o_A Kv) z0o_C (fun _ => retQ Tryz.prog Tryz.f118.results Kv))
theorem z0o_e (Kv : VW) (a_0_0 a_0_1 : Int) (b_1_0 b_1_1 : Int) (w : World) : z0o_sd a_0_0 a_0_1 b_1_0 b_1_1 (Pw.kI Kv) w = W Tryz.prog z0o_E 17 (z0o_A Kv) z0o_C [] (retQ Tryz.prog Tryz.f118.results Kv) [] (startS [(Value.agg #[(Value.int .u64 a_0_0), (Value.int .u64 a_0_1)]), (Value.agg #[(Value.int .u64 b_1_0), (Value.int .u64 b_1_1)])]) w := by kernel_rfl
theorem z0o_n (Kv : VW) : obAt (z0o_O Kv) 0 = none := by kernel_rfl
theorem z0o_h (Kv : VW) : ∀ k, holdsAt Tryz.prog z0o_E 17 (z0o_O Kv) k := fun _ => holdsAt_ge (z0o_n Kv) (Nat.zero_le _)
theorem z0o_ok : Sound Tryz.prog 118 z0o_S := ⟨Tryz.call118, fun vs w Kv h => by
  unfold z0o_S at h
  split at h
  . have h := h.out
    rw [z0o_e] at h
    exact calls_sound (Γ := z0o_E) progMixed ⟨.inl z3j_ok, .inl z07_ok, trivial⟩ Tryz.func118 (code := z0o_C) (by kernel_rfl) (z0o_A Kv) Kv (holds_all (z0o_h Kv)) (Nat.le_of_ble_eq_true (by kernel_rfl)) h
  . exact h.elim⟩
structure bits_Sub64_sh (a b c : Int) (K : Pw.T2) (w : World) : Prop where
  out : (0 <= a /\ a < 18446744073709551616 /\ 0 <= b /\ b < 18446744073709551616 /\ 0 <= c /\ c <= 1) /\ K ((a - b - c) % 18446744073709551616) (if a < b + c then 1 else 0) w
noncomputable def bits_Sub64_S : Pw.Spec := fun vs w Kv =>
  match vs with
  | [.int .u64 a, .int .u64 b, .int .u64 c] => bits_Sub64_sh a b c (fun (r s : Int) (w' : World) => Kv (Value.tuple #[Value.int .u64 r, Value.int .u64 s]) w') w
  | _ => False
theorem bits_Sub64_ok : SoundX Tryz.prog 145 bits_Sub64_S := fun vs w Kv h => by
  unfold bits_Sub64_S at h
  split at h
  . rename_i a b c
    obtain ⟨⟨ha, ha', hb, hb', hc, hc'⟩, hk⟩ := h.out
    exact bits_Sub64_run Tryz.func145 (by kernel_rfl) (by kernel_rfl) (by kernel_rfl) (by kernel_rfl) ha ha' hb hb' hc hc' hk
  . exact h.elim
/-! ratio_wide_sub -/
def z0k_sd (a_0_0 a_0_1 : Int) (b_1_0 b_1_1 : Int) (K : Pw.T2) (w : World) : Prop :=
  let w1 := w.alloc (Obj.cells #[(Value.int .u64 a_0_0), (Value.int .u64 a_0_1)] 144)
  let w2 := w1.alloc (Obj.cells #[(Value.int .u64 b_1_0), (Value.int .u64 b_1_1)] 144)
  let w3 := w2.alloc (Obj.cells #[(Value.int .u64 0), (Value.int .u64 0)] 144)
  ∃ x4 : Int, w3.cell? (Addr.mk w.heap.size 1 none) = some (Value.int .u64 x4) /\ ∃ x5 : Int, w3.cell? (Addr.mk w1.heap.size 1 none) = some (Value.int .u64 x5) /\ bits_Sub64_sh x4 x5 (0 : Int) (fun r7 r8 w6 => ∃ x9 : Int, w6.cell? (Addr.mk w.heap.size 0 none) = some (Value.int .u64 x9) /\ ∃ x10 : Int, w6.cell? (Addr.mk w1.heap.size 0 none) = some (Value.int .u64 x10) /\ bits_Sub64_sh x9 x10 r8 (fun r12 _r13 w11 => wrOk w11 (Addr.mk w2.heap.size 0 none) /\ 
  (let w14 := w11.setCell (Addr.mk w2.heap.size 0 none) (Value.int .u64 r12)
  wrOk w14 (Addr.mk w2.heap.size 1 none) /\ 
  (let w15 := w14.setCell (Addr.mk w2.heap.size 1 none) (Value.int .u64 r7)
  ∃ x16 : Int, w15.cell? (Addr.mk w2.heap.size 0 none) = some (Value.int .u64 x16) /\ ∃ x17 : Int, w15.cell? (Addr.mk w2.heap.size 1 none) = some (Value.int .u64 x17) /\ K x16 x17 w15))) w6) w3
structure z0k_sh (a_0_0 a_0_1 : Int) (b_1_0 b_1_1 : Int) (K : Pw.T2) (w : World) : Prop where
  out : z0k_sd a_0_0 a_0_1 b_1_0 b_1_1 K w
noncomputable def z0k_S : Pw.Spec := fun vs w Kv =>
  match vs with
  | [.agg ⟨[.int .u64 a_0_0, .int .u64 a_0_1]⟩, .agg ⟨[.int .u64 b_1_0, .int .u64 b_1_1]⟩] => z0k_sh a_0_0 a_0_1 b_1_0 b_1_1 (fun r0_0 r0_1 w' => Kv (Value.agg #[(Value.int .u64 r0_0), (Value.int .u64 r0_1)]) w') w
  | _ => False
noncomputable def z0k_E : Pw.Env := [(145, bits_Sub64_S)]
noncomputable def z0k_C : Code := (Tryz.f134.body).getD .skip
noncomputable def z0k_A (_Kv : VW) : Pw.A :=
  (A.seq (A.reg (Pw.rn 3 RA.done))
   (A.seq (A.reg (Pw.rn 10 RA.done))
   (A.seq (A.reg (Pw.rn 11 RA.done))
   (A.seq (A.reg (Pw.rn 4 RA.done))
   A.leaf))))
noncomputable def z0k_O (Kv : VW) : List Ob := (obs Tryz.prog z0k_E 29 (z0k_A Kv) z0k_C (fun _ => retQ Tryz.prog Tryz.f134.results Kv))
theorem z0k_e (Kv : VW) (a_0_0 a_0_1 : Int) (b_1_0 b_1_1 : Int) (w : World) : z0k_sd a_0_0 a_0_1 b_1_0 b_1_1 (fun r0_0 r0_1 w' => Kv (Value.agg #[(Value.int .u64 r0_0), (Value.int .u64 r0_1)]) w') w = W Tryz.prog z0k_E 29 (z0k_A Kv) z0k_C [] (retQ Tryz.prog Tryz.f134.results Kv) [] (startS [(Value.agg #[(Value.int .u64 a_0_0), (Value.int .u64 a_0_1)]), (Value.agg #[(Value.int .u64 b_1_0), (Value.int .u64 b_1_1)])]) w := by kernel_rfl
theorem z0k_n (Kv : VW) : obAt (z0k_O Kv) 0 = none := by kernel_rfl
theorem z0k_h (Kv : VW) : ∀ k, holdsAt Tryz.prog z0k_E 29 (z0k_O Kv) k := fun _ => holdsAt_ge (z0k_n Kv) (Nat.zero_le _)
theorem z0k_ok : Sound Tryz.prog 134 z0k_S := ⟨Tryz.call134, fun vs w Kv h => by
  unfold z0k_S at h
  split at h
  . have h := h.out
    rw [z0k_e] at h
    exact calls_sound (Γ := z0k_E) progMixed ⟨.inr bits_Sub64_ok, trivial⟩ Tryz.func134 (code := z0k_C) (by kernel_rfl) (z0k_A Kv) Kv (holds_all (z0k_h Kv)) (Nat.le_of_ble_eq_true (by kernel_rfl)) h
  . exact h.elim⟩
/-! bits_Len64 -/
def z1f_k2d (x_0 n_2 : Int) (K : Pw.T1) (w : World) : Prop :=
  inR .u8 x_0 /\ (0 <= x_0 /\ x_0 < ((str [0, 1, 2, 2, 3, 3, 3, 3, 4, 4, 4, 4, 4, 4, 4, 4, 5, 5, 5, 5, 5, 5, 5, 5, 5, 5, 5, 5, 5, 5, 5, 5, 6, 6, 6, 6, 6, 6, 6, 6, 6, 6, 6, 6, 6, 6, 6, 6, 6, 6, 6, 6, 6, 6, 6, 6, 6, 6, 6, 6, 6, 6, 6, 6, 7, 7, 7, 7, 7, 7, 7, 7, 7, 7, 7, 7, 7, 7, 7, 7, 7, 7, 7, 7, 7, 7, 7, 7, 7, 7, 7, 7, 7, 7, 7, 7, 7, 7, 7, 7, 7, 7, 7, 7, 7, 7, 7, 7, 7, 7, 7, 7, 7, 7, 7, 7, 7, 7, 7, 7, 7, 7, 7, 7, 7, 7, 7, 7, 8, 8, 8, 8, 8, 8, 8, 8, 8, 8, 8, 8, 8, 8, 8, 8, 8, 8, 8, 8, 8, 8, 8, 8, 8, 8, 8, 8, 8, 8, 8, 8, 8, 8, 8, 8, 8, 8, 8, 8, 8, 8, 8, 8, 8, 8, 8, 8, 8, 8, 8, 8, 8, 8, 8, 8, 8, 8, 8, 8, 8, 8, 8, 8, 8, 8, 8, 8, 8, 8, 8, 8, 8, 8, 8, 8, 8, 8, 8, 8, 8, 8, 8, 8, 8, 8, 8, 8, 8, 8, 8, 8, 8, 8, 8, 8, 8, 8, 8, 8, 8, 8, 8, 8, 8, 8, 8, 8, 8, 8, 8, 8, 8, 8, 8, 8, 8, 8, 8, 8, 8, 8, 8, 8, 8, 8, 8, 8]).size : Nat)) /\ inR .i64 (((str [0, 1, 2, 2, 3, 3, 3, 3, 4, 4, 4, 4, 4, 4, 4, 4, 5, 5, 5, 5, 5, 5, 5, 5, 5, 5, 5, 5, 5, 5, 5, 5, 6, 6, 6, 6, 6, 6, 6, 6, 6, 6, 6, 6, 6, 6, 6, 6, 6, 6, 6, 6, 6, 6, 6, 6, 6, 6, 6, 6, 6, 6, 6, 6, 7, 7, 7, 7, 7, 7, 7, 7, 7, 7, 7, 7, 7, 7, 7, 7, 7, 7, 7, 7, 7, 7, 7, 7, 7, 7, 7, 7, 7, 7, 7, 7, 7, 7, 7, 7, 7, 7, 7, 7, 7, 7, 7, 7, 7, 7, 7, 7, 7, 7, 7, 7, 7, 7, 7, 7, 7, 7, 7, 7, 7, 7, 7, 7, 8, 8, 8, 8, 8, 8, 8, 8, 8, 8, 8, 8, 8, 8, 8, 8, 8, 8, 8, 8, 8, 8, 8, 8, 8, 8, 8, 8, 8, 8, 8, 8, 8, 8, 8, 8, 8, 8, 8, 8, 8, 8, 8, 8, 8, 8, 8, 8, 8, 8, 8, 8, 8, 8, 8, 8, 8, 8, 8, 8, 8, 8, 8, 8, 8, 8, 8, 8, 8, 8, 8, 8, 8, 8, 8, 8, 8, 8, 8, 8, 8, 8, 8, 8, 8, 8, 8, 8, 8, 8, 8, 8, 8, 8, 8, 8, 8, 8, 8, 8, 8, 8, 8, 8, 8, 8, 8, 8, 8, 8, 8, 8, 8, 8, 8, 8, 8, 8, 8, 8, 8, 8, 8, 8, 8, 8, 8, 8]).data.toList.getD x_0.toNat 0).toNat : Int) /\ inR .i64 (n_2 + (((str [0, 1, 2, 2, 3, 3, 3, 3, 4, 4, 4, 4, 4, 4, 4, 4, 5, 5, 5, 5, 5, 5, 5, 5, 5, 5, 5, 5, 5, 5, 5, 5, 6, 6, 6, 6, 6, 6, 6, 6, 6, 6, 6, 6, 6, 6, 6, 6, 6, 6, 6, 6, 6, 6, 6, 6, 6, 6, 6, 6, 6, 6, 6, 6, 7, 7, 7, 7, 7, 7, 7, 7, 7, 7, 7, 7, 7, 7, 7, 7, 7, 7, 7, 7, 7, 7, 7, 7, 7, 7, 7, 7, 7, 7, 7, 7, 7, 7, 7, 7, 7, 7, 7, 7, 7, 7, 7, 7, 7, 7, 7, 7, 7, 7, 7, 7, 7, 7, 7, 7, 7, 7, 7, 7, 7, 7, 7, 7, 8, 8, 8, 8, 8, 8, 8, 8, 8, 8, 8, 8, 8, 8, 8, 8, 8, 8, 8, 8, 8, 8, 8, 8, 8, 8, 8, 8, 8, 8, 8, 8, 8, 8, 8, 8, 8, 8, 8, 8, 8, 8, 8, 8, 8, 8, 8, 8, 8, 8, 8, 8, 8, 8, 8, 8, 8, 8, 8, 8, 8, 8, 8, 8, 8, 8, 8, 8, 8, 8, 8, 8, 8, 8, 8, 8, 8, 8, 8, 8, 8, 8, 8, 8, 8, 8, 8, 8, 8, 8, 8, 8, 8, 8, 8, 8, 8, 8, 8, 8, 8, 8, 8, 8, 8, 8, 8, 8, 8, 8, 8, 8, 8, 8, 8, 8, 8, 8, 8, 8, 8, 8, 8, 8, 8, 8, 8, 8]).data.toList.getD x_0.toNat 0).toNat : Int)) /\ K (n_2 + (((str [0, 1, 2, 2, 3, 3, 3, 3, 4, 4, 4, 4, 4, 4, 4, 4, 5, 5, 5, 5, 5, 5, 5, 5, 5, 5, 5, 5, 5, 5, 5, 5, 6, 6, 6, 6, 6, 6, 6, 6, 6, 6, 6, 6, 6, 6, 6, 6, 6, 6, 6, 6, 6, 6, 6, 6, 6, 6, 6, 6, 6, 6, 6, 6, 7, 7, 7, 7, 7, 7, 7, 7, 7, 7, 7, 7, 7, 7, 7, 7, 7, 7, 7, 7, 7, 7, 7, 7, 7, 7, 7, 7, 7, 7, 7, 7, 7, 7, 7, 7, 7, 7, 7, 7, 7, 7, 7, 7, 7, 7, 7, 7, 7, 7, 7, 7, 7, 7, 7, 7, 7, 7, 7, 7, 7, 7, 7, 7, 8, 8, 8, 8, 8, 8, 8, 8, 8, 8, 8, 8, 8, 8, 8, 8, 8, 8, 8, 8, 8, 8, 8, 8, 8, 8, 8, 8, 8, 8, 8, 8, 8, 8, 8, 8, 8, 8, 8, 8, 8, 8, 8, 8, 8, 8, 8, 8, 8, 8, 8, 8, 8, 8, 8, 8, 8, 8, 8, 8, 8, 8, 8, 8, 8, 8, 8, 8, 8, 8, 8, 8, 8, 8, 8, 8, 8, 8, 8, 8, 8, 8, 8, 8, 8, 8, 8, 8, 8, 8, 8, 8, 8, 8, 8, 8, 8, 8, 8, 8, 8, 8, 8, 8, 8, 8, 8, 8, 8, 8, 8, 8, 8, 8, 8, 8, 8, 8, 8, 8, 8, 8, 8, 8, 8, 8, 8, 8]).data.toList.getD x_0.toNat 0).toNat : Int)) w
structure z1f_k2 (x_0 n_2 : Int) (K : Pw.T1) (w : World) : Prop where
  out : z1f_k2d x_0 n_2 K w
def z1f_k1d (x_0 n_2 : Int) (K : Pw.T1) (w : World) : Prop :=
  cnd (decide (x_0 >= (256 : Int)))
    (0 <= (8 : Int) /\ inR .i64 (n_2 + (8 : Int)) /\ z1f_k2 (Int.fdiv x_0 (2 ^ (min 8 (IntKind.bits .u64)))) (n_2 + (8 : Int)) K w)
    (z1f_k2 x_0 n_2 K w)
structure z1f_k1 (x_0 n_2 : Int) (K : Pw.T1) (w : World) : Prop where
  out : z1f_k1d x_0 n_2 K w
def z1f_k0d (x_0 n_2 : Int) (K : Pw.T1) (w : World) : Prop :=
  cnd (decide (x_0 >= (65536 : Int)))
    (0 <= (16 : Int) /\ inR .i64 (n_2 + (16 : Int)) /\ z1f_k1 (Int.fdiv x_0 (2 ^ (min 16 (IntKind.bits .u64)))) (n_2 + (16 : Int)) K w)
    (z1f_k1 x_0 n_2 K w)
structure z1f_k0 (x_0 n_2 : Int) (K : Pw.T1) (w : World) : Prop where
  out : z1f_k0d x_0 n_2 K w
def z1f_sd (x_0 : Int) (K : Pw.T1) (w : World) : Prop :=
  cnd (decide (x_0 >= (4294967296 : Int)))
    (0 <= (32 : Int) /\ z1f_k0 (Int.fdiv x_0 (2 ^ (min 32 (IntKind.bits .u64)))) (32 : Int) K w)
    (z1f_k0 x_0 (0 : Int) K w)
structure z1f_sh (x_0 : Int) (K : Pw.T1) (w : World) : Prop where
  out : z1f_sd x_0 K w
def z1f_P0 (Kv : VW) (ρ : Rho) (vs : List Value) (w : World) : Prop :=
  match ρ, vs with
  | _, [.int .u64 x_0, .int .i64 n_2] => z1f_k0 x_0 n_2 (Pw.kI Kv) w
  | _, _ => False
def z1f_P1 (Kv : VW) (ρ : Rho) (vs : List Value) (w : World) : Prop :=
  match ρ, vs with
  | _, [.int .u64 x_0, .int .i64 n_2] => z1f_k1 x_0 n_2 (Pw.kI Kv) w
  | _, _ => False
def z1f_P2 (Kv : VW) (ρ : Rho) (vs : List Value) (w : World) : Prop :=
  match ρ, vs with
  | _, [.int .u64 x_0, .int .i64 n_2] => z1f_k2 x_0 n_2 (Pw.kI Kv) w
  | _, _ => False
noncomputable def z1f_S : Pw.Spec := fun vs w Kv =>
  match vs with
  | [.int .u64 x_0] => z1f_sh x_0 (Pw.kI Kv) w
  | _ => False
noncomputable def z1f_E : Pw.Env := []
noncomputable def z1f_C : Code := (Tryz.f150.body).getD .skip
noncomputable def z1f_A (Kv : VW) : Pw.A :=
  (A.seq (A.reg (RA.run RA.done))
   (A.seq (A.seq (A.reg (Pw.rn 2 RA.done))
   (A.cond (A.seq (A.reg (Pw.rn 3 RA.done))
   (A.reg (RA.run RA.done)))
   A.leaf))
   (A.cut [0, 2] (z1f_P0 Kv) (A.seq (A.seq (A.reg (Pw.rn 2 RA.done))
   (A.cond (A.seq (A.reg (Pw.rn 3 RA.done))
   (A.reg (Pw.rn 3 RA.done)))
   A.leaf))
   (A.cut [0, 2] (z1f_P1 Kv) (A.seq (A.seq (A.reg (Pw.rn 2 RA.done))
   (A.cond (A.seq (A.reg (Pw.rn 3 RA.done))
   (A.reg (Pw.rn 3 RA.done)))
   A.leaf))
   (A.cut [0, 2] (z1f_P2 Kv) (A.seq (A.reg (Pw.rn 7 RA.done))
   A.leaf))))))))
noncomputable def z1f_O (Kv : VW) : List Ob := (obs Tryz.prog z1f_E 25 (z1f_A Kv) z1f_C (fun _ => retQ Tryz.prog Tryz.f150.results Kv))
theorem z1f_e (Kv : VW) (x_0 : Int) (w : World) : z1f_sd x_0 (Pw.kI Kv) w = W Tryz.prog z1f_E 25 (z1f_A Kv) z1f_C [] (retQ Tryz.prog Tryz.f150.results Kv) [] (startS [(Value.int .u64 x_0)]) w := by kernel_rfl
theorem z1f_e0 (Kv : VW) (ρ : Rho) (x_0 n_2 : Int) (w : World) : z1f_k0d x_0 n_2 (Pw.kI Kv) w = goalAt Tryz.prog z1f_E 25 (z1f_O Kv) 0 (ρ) [(Value.int .u64 x_0), (Value.int .i64 n_2)] w := by kernel_rfl
theorem z1f_q0 (Kv : VW) (ρ : Rho) (vs : List Value) (w : World) : labAt (z1f_O Kv) 0 ρ vs w = z1f_P0 Kv ρ vs w := by kernel_rfl
theorem z1f_h0 (Kv : VW) : holdsAt Tryz.prog z1f_E 25 (z1f_O Kv) 0 := holdsAt_cut (.inl (by kernel_rfl)) (fun ρ vs w h => by
  rw [z1f_q0] at h
  unfold z1f_P0 at h
  split at h
  . rw [← z1f_e0]; exact h.out
  . exact h.elim)
theorem z1f_e1 (Kv : VW) (ρ : Rho) (x_0 n_2 : Int) (w : World) : z1f_k1d x_0 n_2 (Pw.kI Kv) w = goalAt Tryz.prog z1f_E 25 (z1f_O Kv) 1 (ρ) [(Value.int .u64 x_0), (Value.int .i64 n_2)] w := by kernel_rfl
theorem z1f_q1 (Kv : VW) (ρ : Rho) (vs : List Value) (w : World) : labAt (z1f_O Kv) 1 ρ vs w = z1f_P1 Kv ρ vs w := by kernel_rfl
theorem z1f_h1 (Kv : VW) : holdsAt Tryz.prog z1f_E 25 (z1f_O Kv) 1 := holdsAt_cut (.inl (by kernel_rfl)) (fun ρ vs w h => by
  rw [z1f_q1] at h
  unfold z1f_P1 at h
  split at h
  . rw [← z1f_e1]; exact h.out
  . exact h.elim)
theorem z1f_e2 (Kv : VW) (ρ : Rho) (x_0 n_2 : Int) (w : World) : z1f_k2d x_0 n_2 (Pw.kI Kv) w = goalAt Tryz.prog z1f_E 25 (z1f_O Kv) 2 (ρ) [(Value.int .u64 x_0), (Value.int .i64 n_2)] w := by kernel_rfl
theorem z1f_q2 (Kv : VW) (ρ : Rho) (vs : List Value) (w : World) : labAt (z1f_O Kv) 2 ρ vs w = z1f_P2 Kv ρ vs w := by kernel_rfl
theorem z1f_h2 (Kv : VW) : holdsAt Tryz.prog z1f_E 25 (z1f_O Kv) 2 := holdsAt_cut (.inl (by kernel_rfl)) (fun ρ vs w h => by
  rw [z1f_q2] at h
  unfold z1f_P2 at h
  split at h
  . rw [← z1f_e2]; exact h.out
  . exact h.elim)
theorem z1f_n (Kv : VW) : obAt (z1f_O Kv) 3 = none := by kernel_rfl
theorem z1f_h (Kv : VW) : ∀ k, holdsAt Tryz.prog z1f_E 25 (z1f_O Kv) k := fun k => match k with
  | 0 => z1f_h0 Kv
  | 1 => z1f_h1 Kv
  | 2 => z1f_h2 Kv
  | _k + 3 => holdsAt_ge (z1f_n Kv) (Nat.le_add_left _ _)
theorem z1f_ok : Sound Tryz.prog 150 z1f_S := ⟨Tryz.call150, fun vs w Kv h => by
  unfold z1f_S at h
  split at h
  . have h := h.out
    rw [z1f_e] at h
    exact calls_sound (Γ := z1f_E) progMixed trivial Tryz.func150 (code := z1f_C) (by kernel_rfl) (z1f_A Kv) Kv (holds_all (z1f_h Kv)) (Nat.le_of_ble_eq_true (by kernel_rfl)) h
  . exact h.elim⟩
/-! bits_LeadingZeros64 -/
def z04_sd (x_0 : Int) (K : Pw.T1) (w : World) : Prop :=
  z1f_sh x_0 (fun r2 w1 => inR .i64 ((64 : Int) - r2) /\ K ((64 : Int) - r2) w1) w
structure z04_sh (x_0 : Int) (K : Pw.T1) (w : World) : Prop where
  out : z04_sd x_0 K w
noncomputable def z04_S : Pw.Spec := fun vs w Kv =>
  match vs with
  | [.int .u64 x_0] => z04_sh x_0 (Pw.kI Kv) w
  | _ => False
noncomputable def z04_E : Pw.Env := [(150, z1f_S)]
noncomputable def z04_C : Code := (Tryz.f149.body).getD .skip
noncomputable def z04_A (_Kv : VW) : Pw.A :=
  (A.seq (A.reg (RA.run RA.done))
   (A.seq (A.reg (Pw.rn 4 RA.done))
   A.leaf))
noncomputable def z04_O (Kv : VW) : List Ob := (obs Tryz.prog z04_E 6 (z04_A Kv) z04_C (fun _ => retQ Tryz.prog Tryz.f149.results Kv))
theorem z04_e (Kv : VW) (x_0 : Int) (w : World) : z04_sd x_0 (Pw.kI Kv) w = W Tryz.prog z04_E 6 (z04_A Kv) z04_C [] (retQ Tryz.prog Tryz.f149.results Kv) [] (startS [(Value.int .u64 x_0)]) w := by kernel_rfl
theorem z04_n (Kv : VW) : obAt (z04_O Kv) 0 = none := by kernel_rfl
theorem z04_h (Kv : VW) : ∀ k, holdsAt Tryz.prog z04_E 6 (z04_O Kv) k := fun _ => holdsAt_ge (z04_n Kv) (Nat.zero_le _)
theorem z04_ok : Sound Tryz.prog 149 z04_S := ⟨Tryz.call149, fun vs w Kv h => by
  unfold z04_S at h
  split at h
  . have h := h.out
    rw [z04_e] at h
    exact calls_sound (Γ := z04_E) progMixed ⟨.inl z1f_ok, trivial⟩ Tryz.func149 (code := z04_C) (by kernel_rfl) (z04_A Kv) Kv (holds_all (z04_h Kv)) (Nat.le_of_ble_eq_true (by kernel_rfl)) h
  . exact h.elim⟩
/-! bits_Div64 -/
def z19_k5d (y_2 s_8 : Int) (un0_14 q1_15 : Int) (un21_17 q0_18 : Int) (K : Pw.T2) (w : World) : Prop :=
  0 <= s_8 /\ K (IntKind.wrap .u64 ((IntKind.wrap .u64 (q1_15 * (4294967296 : Int))) + q0_18)) (Int.fdiv (IntKind.wrap .u64 ((IntKind.wrap .u64 ((IntKind.wrap .u64 (un21_17 * (4294967296 : Int))) + un0_14)) - (IntKind.wrap .u64 (q0_18 * y_2)))) (2 ^ (min s_8.toNat (IntKind.bits .u64)))) w
structure z19_k5 (y_2 s_8 : Int) (un0_14 q1_15 : Int) (un21_17 q0_18 : Int) (K : Pw.T2) (w : World) : Prop where
  out : z19_k5d y_2 s_8 un0_14 q1_15 un21_17 q0_18 K w
def z19_k4d (y_2 s_8 : Int) (yn1_9 yn0_10 : Int) (un0_14 q1_15 : Int) (rhat_16 un21_17 q0_18 : Int) (N3 : Int -> Int -> Int -> Int -> Int -> Int -> Int -> Int -> Int -> World -> Prop) (K : Pw.T2) (w : World) : Prop :=
  cnd (decide ((IntKind.wrap .u64 (rhat_16 + yn1_9)) >= (4294967296 : Int)))
    (z19_k5 y_2 s_8 un0_14 q1_15 un21_17 (IntKind.wrap .u64 (q0_18 - (1 : Int))) K w)
    (N3 y_2 s_8 yn1_9 yn0_10 un0_14 q1_15 (IntKind.wrap .u64 (rhat_16 + yn1_9)) un21_17 (IntKind.wrap .u64 (q0_18 - (1 : Int))) w)
structure z19_k4 (y_2 s_8 : Int) (yn1_9 yn0_10 : Int) (un0_14 q1_15 : Int) (rhat_16 un21_17 q0_18 : Int) (N3 : Int -> Int -> Int -> Int -> Int -> Int -> Int -> Int -> Int -> World -> Prop) (K : Pw.T2) (w : World) : Prop where
  out : z19_k4d y_2 s_8 yn1_9 yn0_10 un0_14 q1_15 rhat_16 un21_17 q0_18 N3 K w
def z19_b3 (y_2 s_8 : Int) (yn1_9 yn0_10 : Int) (un0_14 q1_15 : Int) (rhat_16 un21_17 q0_18 : Int) (N3 : Int -> Int -> Int -> Int -> Int -> Int -> Int -> Int -> Int -> World -> Prop) (K : Pw.T2) (w : World) : Prop :=
  cnd (decide (q0_18 >= (4294967296 : Int)))
    (z19_k4 y_2 s_8 yn1_9 yn0_10 un0_14 q1_15 rhat_16 un21_17 q0_18 N3 K w)
    (cnd (decide ((IntKind.wrap .u64 (q0_18 * yn0_10)) > (IntKind.wrap .u64 ((IntKind.wrap .u64 ((4294967296 : Int) * rhat_16)) + un0_14))))
    (z19_k4 y_2 s_8 yn1_9 yn0_10 un0_14 q1_15 rhat_16 un21_17 q0_18 N3 K w)
    (z19_k5 y_2 s_8 un0_14 q1_15 un21_17 q0_18 K w))
def z19_l3d (y_2 s_8 : Int) (yn1_9 yn0_10 : Int) (un0_14 q1_15 : Int) (rhat_16 un21_17 q0_18 : Int) (K : Pw.T2) (w : World) : Prop :=
  ∃ (I : Int -> Int -> World -> Prop) (μ : Int -> Int -> World -> Nat), I rhat_16 q0_18 w /\ ∀ (rhat_161 q0_181 : Int) (w1 : World), I rhat_161 q0_181 w1 ->
    z19_b3 y_2 s_8 yn1_9 yn0_10 un0_14 q1_15 rhat_161 un21_17 q0_181 (fun y_2' s_8' yn1_9' yn0_10' un0_14' q1_15' rhat_16' un21_17' q0_18' w' => ((y_2' = y_2 /\ s_8' = s_8 /\ yn1_9' = yn1_9 /\ yn0_10' = yn0_10 /\ un0_14' = un0_14 /\ q1_15' = q1_15 /\ un21_17' = un21_17 /\ True) /\ I rhat_16' q0_18' w') /\ μ rhat_16' q0_18' w' < μ rhat_161 q0_181 w1) K w1
structure z19_l3 (y_2 s_8 : Int) (yn1_9 yn0_10 : Int) (un0_14 q1_15 : Int) (rhat_16 un21_17 q0_18 : Int) (K : Pw.T2) (w : World) : Prop where
  out : z19_l3d y_2 s_8 yn1_9 yn0_10 un0_14 q1_15 rhat_16 un21_17 q0_18 K w
def z19_k2d (y_2 s_8 : Int) (yn1_9 yn0_10 : Int) (un32_11 un1_13 : Int) (un0_14 q1_15 : Int) (K : Pw.T2) (w : World) : Prop :=
  yn1_9 ≠ 0 /\ inR .u64 (Int.tdiv (IntKind.wrap .u64 ((IntKind.wrap .u64 ((IntKind.wrap .u64 (un32_11 * (4294967296 : Int))) + un1_13)) - (IntKind.wrap .u64 (q1_15 * y_2)))) yn1_9) /\ z19_l3 y_2 s_8 yn1_9 yn0_10 un0_14 q1_15 (IntKind.wrap .u64 ((IntKind.wrap .u64 ((IntKind.wrap .u64 ((IntKind.wrap .u64 (un32_11 * (4294967296 : Int))) + un1_13)) - (IntKind.wrap .u64 (q1_15 * y_2)))) - (IntKind.wrap .u64 ((Int.tdiv (IntKind.wrap .u64 ((IntKind.wrap .u64 ((IntKind.wrap .u64 (un32_11 * (4294967296 : Int))) + un1_13)) - (IntKind.wrap .u64 (q1_15 * y_2)))) yn1_9) * yn1_9)))) (IntKind.wrap .u64 ((IntKind.wrap .u64 ((IntKind.wrap .u64 (un32_11 * (4294967296 : Int))) + un1_13)) - (IntKind.wrap .u64 (q1_15 * y_2)))) (Int.tdiv (IntKind.wrap .u64 ((IntKind.wrap .u64 ((IntKind.wrap .u64 (un32_11 * (4294967296 : Int))) + un1_13)) - (IntKind.wrap .u64 (q1_15 * y_2)))) yn1_9) K w
structure z19_k2 (y_2 s_8 : Int) (yn1_9 yn0_10 : Int) (un32_11 un1_13 : Int) (un0_14 q1_15 : Int) (K : Pw.T2) (w : World) : Prop where
  out : z19_k2d y_2 s_8 yn1_9 yn0_10 un32_11 un1_13 un0_14 q1_15 K w
def z19_k1d (y_2 s_8 : Int) (yn1_9 yn0_10 : Int) (un32_11 un1_13 : Int) (un0_14 q1_15 rhat_16 : Int) (N0 : Int -> Int -> Int -> Int -> Int -> Int -> Int -> Int -> Int -> World -> Prop) (K : Pw.T2) (w : World) : Prop :=
  cnd (decide ((IntKind.wrap .u64 (rhat_16 + yn1_9)) >= (4294967296 : Int)))
    (z19_k2 y_2 s_8 yn1_9 yn0_10 un32_11 un1_13 un0_14 (IntKind.wrap .u64 (q1_15 - (1 : Int))) K w)
    (N0 y_2 s_8 yn1_9 yn0_10 un32_11 un1_13 un0_14 (IntKind.wrap .u64 (q1_15 - (1 : Int))) (IntKind.wrap .u64 (rhat_16 + yn1_9)) w)
structure z19_k1 (y_2 s_8 : Int) (yn1_9 yn0_10 : Int) (un32_11 un1_13 : Int) (un0_14 q1_15 rhat_16 : Int) (N0 : Int -> Int -> Int -> Int -> Int -> Int -> Int -> Int -> Int -> World -> Prop) (K : Pw.T2) (w : World) : Prop where
  out : z19_k1d y_2 s_8 yn1_9 yn0_10 un32_11 un1_13 un0_14 q1_15 rhat_16 N0 K w
def z19_b0 (y_2 s_8 : Int) (yn1_9 yn0_10 : Int) (un32_11 un1_13 : Int) (un0_14 q1_15 rhat_16 : Int) (N0 : Int -> Int -> Int -> Int -> Int -> Int -> Int -> Int -> Int -> World -> Prop) (K : Pw.T2) (w : World) : Prop :=
  cnd (decide (q1_15 >= (4294967296 : Int)))
    (z19_k1 y_2 s_8 yn1_9 yn0_10 un32_11 un1_13 un0_14 q1_15 rhat_16 N0 K w)
    (cnd (decide ((IntKind.wrap .u64 (q1_15 * yn0_10)) > (IntKind.wrap .u64 ((IntKind.wrap .u64 ((4294967296 : Int) * rhat_16)) + un1_13))))
    (z19_k1 y_2 s_8 yn1_9 yn0_10 un32_11 un1_13 un0_14 q1_15 rhat_16 N0 K w)
    (z19_k2 y_2 s_8 yn1_9 yn0_10 un32_11 un1_13 un0_14 q1_15 K w))
def z19_l0d (y_2 s_8 : Int) (yn1_9 yn0_10 : Int) (un32_11 un1_13 : Int) (un0_14 q1_15 rhat_16 : Int) (K : Pw.T2) (w : World) : Prop :=
  ∃ (I : Int -> Int -> World -> Prop) (μ : Int -> Int -> World -> Nat), I q1_15 rhat_16 w /\ ∀ (q1_151 rhat_161 : Int) (w1 : World), I q1_151 rhat_161 w1 ->
    z19_b0 y_2 s_8 yn1_9 yn0_10 un32_11 un1_13 un0_14 q1_151 rhat_161 (fun y_2' s_8' yn1_9' yn0_10' un32_11' un1_13' un0_14' q1_15' rhat_16' w' => ((y_2' = y_2 /\ s_8' = s_8 /\ yn1_9' = yn1_9 /\ yn0_10' = yn0_10 /\ un32_11' = un32_11 /\ un1_13' = un1_13 /\ un0_14' = un0_14 /\ True) /\ I q1_15' rhat_16' w') /\ μ q1_15' rhat_16' w' < μ q1_151 rhat_161 w1) K w1
structure z19_l0 (y_2 s_8 : Int) (yn1_9 yn0_10 : Int) (un32_11 un1_13 : Int) (un0_14 q1_15 rhat_16 : Int) (K : Pw.T2) (w : World) : Prop where
  out : z19_l0d y_2 s_8 yn1_9 yn0_10 un32_11 un1_13 un0_14 q1_15 rhat_16 K w
def z19_sd (hi_0 lo_1 y_2 : Int) (K : Pw.T2) (w : World) : Prop :=
  cnd (y_2 == (0 : Int))
    (∃ x1 : Value, w.cell? (Addr.mk 0 0 none) = some x1 /\ False)
    (cnd (decide (y_2 <= hi_0))
    (∃ x2 : Value, w.cell? (Addr.mk 1 0 none) = some x2 /\ False)
    (cnd (hi_0 == (0 : Int))
    (let w3 := w.drew
  y_2 ≠ 0 /\ inR .u64 (Int.tdiv lo_1 y_2) /\ y_2 ≠ 0 /\ K (Int.tdiv lo_1 y_2) (Int.tmod lo_1 y_2) w3)
    (z04_sh y_2 (fun r5 w4 => 0 <= (IntKind.wrap .u64 r5) /\ 0 <= (32 : Int) /\ 0 <= (IntKind.wrap .u64 r5) /\ 0 <= (IntKind.wrap .u64 ((64 : Int) - (IntKind.wrap .u64 r5))) /\ 0 <= (IntKind.wrap .u64 r5) /\ 0 <= (32 : Int) /\ (Int.fdiv (IntKind.wrap .u64 (y_2 * 2 ^ (min (IntKind.wrap .u64 r5).toNat (IntKind.bits .u64)))) (2 ^ (min 32 (IntKind.bits .u64)))) ≠ 0 /\ inR .u64 (Int.tdiv (IntKind.wrap .u64 (((BitVec.ofInt (IntKind.bits .u64) (IntKind.wrap .u64 (hi_0 * 2 ^ (min (IntKind.wrap .u64 r5).toNat (IntKind.bits .u64)))) ||| BitVec.ofInt (IntKind.bits .u64) (Int.fdiv lo_1 (2 ^ (min (IntKind.wrap .u64 ((64 : Int) - (IntKind.wrap .u64 r5))).toNat (IntKind.bits .u64)))))).toNat : Int)) (Int.fdiv (IntKind.wrap .u64 (y_2 * 2 ^ (min (IntKind.wrap .u64 r5).toNat (IntKind.bits .u64)))) (2 ^ (min 32 (IntKind.bits .u64))))) /\ z19_l0 (IntKind.wrap .u64 (y_2 * 2 ^ (min (IntKind.wrap .u64 r5).toNat (IntKind.bits .u64)))) (IntKind.wrap .u64 r5) (Int.fdiv (IntKind.wrap .u64 (y_2 * 2 ^ (min (IntKind.wrap .u64 r5).toNat (IntKind.bits .u64)))) (2 ^ (min 32 (IntKind.bits .u64)))) (IntKind.wrap .u64 (((BitVec.ofInt (IntKind.bits .u64) (IntKind.wrap .u64 (y_2 * 2 ^ (min (IntKind.wrap .u64 r5).toNat (IntKind.bits .u64)))) &&& BitVec.ofInt (IntKind.bits .u64) (4294967295 : Int))).toNat : Int)) (IntKind.wrap .u64 (((BitVec.ofInt (IntKind.bits .u64) (IntKind.wrap .u64 (hi_0 * 2 ^ (min (IntKind.wrap .u64 r5).toNat (IntKind.bits .u64)))) ||| BitVec.ofInt (IntKind.bits .u64) (Int.fdiv lo_1 (2 ^ (min (IntKind.wrap .u64 ((64 : Int) - (IntKind.wrap .u64 r5))).toNat (IntKind.bits .u64)))))).toNat : Int)) (Int.fdiv (IntKind.wrap .u64 (lo_1 * 2 ^ (min (IntKind.wrap .u64 r5).toNat (IntKind.bits .u64)))) (2 ^ (min 32 (IntKind.bits .u64)))) (IntKind.wrap .u64 (((BitVec.ofInt (IntKind.bits .u64) (IntKind.wrap .u64 (lo_1 * 2 ^ (min (IntKind.wrap .u64 r5).toNat (IntKind.bits .u64)))) &&& BitVec.ofInt (IntKind.bits .u64) (4294967295 : Int))).toNat : Int)) (Int.tdiv (IntKind.wrap .u64 (((BitVec.ofInt (IntKind.bits .u64) (IntKind.wrap .u64 (hi_0 * 2 ^ (min (IntKind.wrap .u64 r5).toNat (IntKind.bits .u64)))) ||| BitVec.ofInt (IntKind.bits .u64) (Int.fdiv lo_1 (2 ^ (min (IntKind.wrap .u64 ((64 : Int) - (IntKind.wrap .u64 r5))).toNat (IntKind.bits .u64)))))).toNat : Int)) (Int.fdiv (IntKind.wrap .u64 (y_2 * 2 ^ (min (IntKind.wrap .u64 r5).toNat (IntKind.bits .u64)))) (2 ^ (min 32 (IntKind.bits .u64))))) (IntKind.wrap .u64 ((IntKind.wrap .u64 (((BitVec.ofInt (IntKind.bits .u64) (IntKind.wrap .u64 (hi_0 * 2 ^ (min (IntKind.wrap .u64 r5).toNat (IntKind.bits .u64)))) ||| BitVec.ofInt (IntKind.bits .u64) (Int.fdiv lo_1 (2 ^ (min (IntKind.wrap .u64 ((64 : Int) - (IntKind.wrap .u64 r5))).toNat (IntKind.bits .u64)))))).toNat : Int)) - (IntKind.wrap .u64 ((Int.tdiv (IntKind.wrap .u64 (((BitVec.ofInt (IntKind.bits .u64) (IntKind.wrap .u64 (hi_0 * 2 ^ (min (IntKind.wrap .u64 r5).toNat (IntKind.bits .u64)))) ||| BitVec.ofInt (IntKind.bits .u64) (Int.fdiv lo_1 (2 ^ (min (IntKind.wrap .u64 ((64 : Int) - (IntKind.wrap .u64 r5))).toNat (IntKind.bits .u64)))))).toNat : Int)) (Int.fdiv (IntKind.wrap .u64 (y_2 * 2 ^ (min (IntKind.wrap .u64 r5).toNat (IntKind.bits .u64)))) (2 ^ (min 32 (IntKind.bits .u64))))) * (Int.fdiv (IntKind.wrap .u64 (y_2 * 2 ^ (min (IntKind.wrap .u64 r5).toNat (IntKind.bits .u64)))) (2 ^ (min 32 (IntKind.bits .u64)))))))) K w4) w)))
structure z19_sh (hi_0 lo_1 y_2 : Int) (K : Pw.T2) (w : World) : Prop where
  out : z19_sd hi_0 lo_1 y_2 K w
def z19_P0 (Kv : VW) (ρ : Rho) (vs : List Value) (w : World) : Prop :=
  match ρ, vs with
  | _, [.int .u64 y_2, .int .u64 s_8, .int .u64 yn1_9, .int .u64 yn0_10, .int .u64 un32_11, .int .u64 un1_13, .int .u64 un0_14, .int .u64 q1_15, .int .u64 rhat_16] => z19_l0 y_2 s_8 yn1_9 yn0_10 un32_11 un1_13 un0_14 q1_15 rhat_16 (fun r0 r1 w' => Kv (Value.tuple #[(Value.int .u64 r0), (Value.int .u64 r1)]) w') w
  | _, _ => False
def z19_P1 (Kv : VW) (ρ : Rho) (vs : List Value) (w : World) : Prop :=
  match ρ, vs with
  | N0 :: _, [.int .u64 y_2, .int .u64 s_8, .int .u64 yn1_9, .int .u64 yn0_10, .int .u64 un32_11, .int .u64 un1_13, .int .u64 un0_14, .int .u64 q1_15, .int .u64 rhat_16] => z19_k1 y_2 s_8 yn1_9 yn0_10 un32_11 un1_13 un0_14 q1_15 rhat_16 (fun y_2' s_8' yn1_9' yn0_10' un32_11' un1_13' un0_14' q1_15' rhat_16' w' => N0 [(Value.int .u64 y_2'), (Value.int .u64 s_8'), (Value.int .u64 yn1_9'), (Value.int .u64 yn0_10'), (Value.int .u64 un32_11'), (Value.int .u64 un1_13'), (Value.int .u64 un0_14'), (Value.int .u64 q1_15'), (Value.int .u64 rhat_16')] w') (fun r0 r1 w' => Kv (Value.tuple #[(Value.int .u64 r0), (Value.int .u64 r1)]) w') w
  | _, _ => False
def z19_P2 (Kv : VW) (ρ : Rho) (vs : List Value) (w : World) : Prop :=
  match ρ, vs with
  | _, [.int .u64 y_2, .int .u64 s_8, .int .u64 yn1_9, .int .u64 yn0_10, .int .u64 un32_11, .int .u64 un1_13, .int .u64 un0_14, .int .u64 q1_15] => z19_k2 y_2 s_8 yn1_9 yn0_10 un32_11 un1_13 un0_14 q1_15 (fun r0 r1 w' => Kv (Value.tuple #[(Value.int .u64 r0), (Value.int .u64 r1)]) w') w
  | _, _ => False
def z19_P3 (Kv : VW) (ρ : Rho) (vs : List Value) (w : World) : Prop :=
  match ρ, vs with
  | _, [.int .u64 y_2, .int .u64 s_8, .int .u64 yn1_9, .int .u64 yn0_10, .int .u64 un0_14, .int .u64 q1_15, .int .u64 rhat_16, .int .u64 un21_17, .int .u64 q0_18] => z19_l3 y_2 s_8 yn1_9 yn0_10 un0_14 q1_15 rhat_16 un21_17 q0_18 (fun r0 r1 w' => Kv (Value.tuple #[(Value.int .u64 r0), (Value.int .u64 r1)]) w') w
  | _, _ => False
def z19_P4 (Kv : VW) (ρ : Rho) (vs : List Value) (w : World) : Prop :=
  match ρ, vs with
  | N3 :: _, [.int .u64 y_2, .int .u64 s_8, .int .u64 yn1_9, .int .u64 yn0_10, .int .u64 un0_14, .int .u64 q1_15, .int .u64 rhat_16, .int .u64 un21_17, .int .u64 q0_18] => z19_k4 y_2 s_8 yn1_9 yn0_10 un0_14 q1_15 rhat_16 un21_17 q0_18 (fun y_2' s_8' yn1_9' yn0_10' un0_14' q1_15' rhat_16' un21_17' q0_18' w' => N3 [(Value.int .u64 y_2'), (Value.int .u64 s_8'), (Value.int .u64 yn1_9'), (Value.int .u64 yn0_10'), (Value.int .u64 un0_14'), (Value.int .u64 q1_15'), (Value.int .u64 rhat_16'), (Value.int .u64 un21_17'), (Value.int .u64 q0_18')] w') (fun r0 r1 w' => Kv (Value.tuple #[(Value.int .u64 r0), (Value.int .u64 r1)]) w') w
  | _, _ => False
def z19_P5 (Kv : VW) (ρ : Rho) (vs : List Value) (w : World) : Prop :=
  match ρ, vs with
  | _, [.int .u64 y_2, .int .u64 s_8, .int .u64 un0_14, .int .u64 q1_15, .int .u64 un21_17, .int .u64 q0_18] => z19_k5 y_2 s_8 un0_14 q1_15 un21_17 q0_18 (fun r0 r1 w' => Kv (Value.tuple #[(Value.int .u64 r0), (Value.int .u64 r1)]) w') w
  | _, _ => False
noncomputable def z19_S : Pw.Spec := fun vs w Kv =>
  match vs with
  | [.int .u64 hi_0, .int .u64 lo_1, .int .u64 y_2] => z19_sh hi_0 lo_1 y_2 (fun r0 r1 w' => Kv (Value.tuple #[(Value.int .u64 r0), (Value.int .u64 r1)]) w') w
  | _ => False
noncomputable def z19_E : Pw.Env := [(149, z04_S)]
noncomputable def z19_C : Code := (Tryz.f146.body).getD .skip
noncomputable def z19_A (Kv : VW) : Pw.A :=
  (A.seq (A.reg (Pw.rn 2 RA.done))
   (A.seq (A.seq (A.reg (Pw.rn 2 RA.done))
   (A.cond (A.reg (Pw.rn 2 RA.done))
   A.leaf))
   (A.seq (A.seq (A.reg (Pw.rn 3 RA.done))
   (A.cond (A.reg (Pw.rn 2 RA.done))
   A.leaf))
   (A.seq (A.seq (A.reg (Pw.rn 2 RA.done))
   (A.cond (A.seq (A.drp (DA.pur 0 (DA.pur 1 (DA.pur 2 (DA.pur 3 (DA.pur 4 (DA.pur 5 (DA.pur 6 (DA.pur 7 DA.done)))))))))
   A.leaf)
   A.leaf))
   (A.seq (A.reg (Pw.rn 2 (RA.raw (RA.run RA.done))))
   (A.seq (A.reg (Pw.rn 4 RA.done))
   (A.seq (A.reg (Pw.rn 3 RA.done))
   (A.seq (A.reg (Pw.rn 3 RA.done))
   (A.seq (A.reg (Pw.rn 5 (RA.raw (Pw.rn 3 RA.done))))
   (A.seq (A.reg (Pw.rn 4 RA.done))
   (A.seq (A.reg (Pw.rn 3 RA.done))
   (A.seq (A.reg (Pw.rn 3 RA.done))
   (A.seq (A.reg (Pw.rn 4 RA.done))
   (A.seq (A.reg (Pw.rn 3 (RA.raw (RA.raw (RA.run RA.done)))))
   (A.seq (A.blk (A.loop [2, 8, 9, 10, 11, 13, 14, 15, 16] (z19_P0 Kv) (A.seq (A.seq (A.reg (Pw.rn 3 (RA.spl 69 (Pw.sk 8 (RA.run RA.done)) (Pw.rn 2 (RA.raw (RA.run (RA.raw (RA.run (RA.raw (Pw.rn 2 RA.done))))))))))
   (A.cond A.leaf
   A.leaf))
   (A.cut [2, 8, 9, 10, 11, 13, 14, 15, 16] (z19_P1 Kv) (A.blk (A.seq (A.reg (RA.run (RA.raw (RA.run RA.done))))
   (A.seq (A.reg (Pw.rn 2 (RA.raw (RA.run RA.done))))
   (A.seq (A.reg (Pw.rn 2 RA.done))
   (A.cond A.leaf
   A.leaf)))))))))
   (A.cut [2, 8, 9, 10, 11, 13, 14, 15] (z19_P2 Kv) (A.seq (A.reg (RA.run (RA.raw (RA.run (RA.raw (Pw.rn 2 (RA.raw (RA.raw (RA.run RA.done)))))))))
   (A.seq (A.reg (Pw.rn 4 RA.done))
   (A.seq (A.reg (Pw.rn 3 (RA.raw (RA.raw (RA.run RA.done)))))
   (A.seq (A.blk (A.loop [2, 8, 9, 10, 14, 15, 16, 17, 18] (z19_P3 Kv) (A.seq (A.seq (A.reg (Pw.rn 3 (RA.spl 104 (Pw.sk 8 (RA.run RA.done)) (Pw.rn 2 (RA.raw (RA.run (RA.raw (RA.run (RA.raw (Pw.rn 2 RA.done))))))))))
   (A.cond A.leaf
   A.leaf))
   (A.cut [2, 8, 9, 10, 14, 15, 16, 17, 18] (z19_P4 Kv) (A.blk (A.seq (A.reg (RA.run (RA.raw (RA.run RA.done))))
   (A.seq (A.reg (Pw.rn 2 (RA.raw (RA.run RA.done))))
   (A.seq (A.reg (Pw.rn 2 RA.done))
   (A.cond A.leaf
   A.leaf)))))))))
   (A.cut [2, 8, 14, 15, 17, 18] (z19_P5 Kv) (A.seq (A.reg (RA.run (RA.raw (RA.run (RA.raw (RA.run (RA.raw (RA.run (RA.raw (Pw.rn 2 (RA.raw (RA.raw (Pw.rn 4 RA.done)))))))))))))
   A.leaf))))))))))))))))))))))
noncomputable def z19_O (Kv : VW) : List Ob := (obs Tryz.prog z19_E 135 (z19_A Kv) z19_C (fun _ => retQ Tryz.prog Tryz.f146.results Kv))
theorem z19_e (Kv : VW) (hi_0 lo_1 y_2 : Int) (w : World) : z19_sd hi_0 lo_1 y_2 (fun r0 r1 w' => Kv (Value.tuple #[(Value.int .u64 r0), (Value.int .u64 r1)]) w') w = W Tryz.prog z19_E 135 (z19_A Kv) z19_C [] (retQ Tryz.prog Tryz.f146.results Kv) [] (startS [(Value.int .u64 hi_0), (Value.int .u64 lo_1), (Value.int .u64 y_2)]) w := by kernel_rfl
theorem z19_e0 (Kv : VW) (N0 : List Value -> World -> Prop) (ρ : Rho) (y_2 s_8 : Int) (yn1_9 yn0_10 : Int) (un32_11 un1_13 : Int) (un0_14 q1_15 rhat_16 : Int) (w : World) : z19_b0 y_2 s_8 yn1_9 yn0_10 un32_11 un1_13 un0_14 q1_15 rhat_16 (fun y_2' s_8' yn1_9' yn0_10' un32_11' un1_13' un0_14' q1_15' rhat_16' w' => N0 [(Value.int .u64 y_2'), (Value.int .u64 s_8'), (Value.int .u64 yn1_9'), (Value.int .u64 yn0_10'), (Value.int .u64 un32_11'), (Value.int .u64 un1_13'), (Value.int .u64 un0_14'), (Value.int .u64 q1_15'), (Value.int .u64 rhat_16')] w') (fun r0 r1 w' => Kv (Value.tuple #[(Value.int .u64 r0), (Value.int .u64 r1)]) w') w = goalAt Tryz.prog z19_E 135 (z19_O Kv) 0 (N0 :: ρ) [(Value.int .u64 y_2), (Value.int .u64 s_8), (Value.int .u64 yn1_9), (Value.int .u64 yn0_10), (Value.int .u64 un32_11), (Value.int .u64 un1_13), (Value.int .u64 un0_14), (Value.int .u64 q1_15), (Value.int .u64 rhat_16)] w := by kernel_rfl
theorem z19_q0 (Kv : VW) (ρ : Rho) (vs : List Value) (w : World) : labAt (z19_O Kv) 0 ρ vs w = z19_P0 Kv ρ vs w := by kernel_rfl
def z19_I0 (y_20 s_80 : Int) (yn1_90 yn0_100 : Int) (un32_110 un1_130 un0_140 : Int) (I : Int -> Int -> World -> Prop) (vs : List Value) (w : World) : Prop :=
  match vs with
  | [.int .u64 y_2, .int .u64 s_8, .int .u64 yn1_9, .int .u64 yn0_10, .int .u64 un32_11, .int .u64 un1_13, .int .u64 un0_14, .int .u64 q1_15, .int .u64 rhat_16] => (y_2 = y_20 /\ s_8 = s_80 /\ yn1_9 = yn1_90 /\ yn0_10 = yn0_100 /\ un32_11 = un32_110 /\ un1_13 = un1_130 /\ un0_14 = un0_140 /\ True) /\ I q1_15 rhat_16 w
  | _ => False
def z19_M0 (μ : Int -> Int -> World -> Nat) (vs : List Value) (w : World) : Nat :=
  match vs with
  | [.int .u64 _y_2, .int .u64 _s_8, .int .u64 _yn1_9, .int .u64 _yn0_10, .int .u64 _un32_11, .int .u64 _un1_13, .int .u64 _un0_14, .int .u64 q1_15, .int .u64 rhat_16] => μ q1_15 rhat_16 w
  | _ => 0
theorem z19_h0 (Kv : VW) : holdsAt Tryz.prog z19_E 135 (z19_O Kv) 0 := holdsAt_loop (by kernel_rfl) (fun ρ vs w h => by
  rw [z19_q0] at h
  unfold z19_P0 at h
  split at h
  . rename_i ρt y_2 s_8 yn1_9 yn0_10 un32_11 un1_13 un0_14 q1_15 rhat_16
    obtain ⟨I, μ, h0, hr⟩ := h.out
    refine ⟨z19_I0 y_2 s_8 yn1_9 yn0_10 un32_11 un1_13 un0_14 I, z19_M0 μ, ⟨⟨rfl, rfl, rfl, rfl, rfl, rfl, rfl, trivial⟩, h0⟩, fun vs w hI => ?_⟩
    unfold z19_I0 at hI
    split at hI
    . obtain ⟨⟨h0, h1, h2, h3, h4, h5, h6, _⟩, hI⟩ := hI
      cases h0; cases h1; cases h2; cases h3; cases h4; cases h5; cases h6
      rw [← z19_e0]
      exact hr _ _ _ hI
    . exact hI.elim
  . exact h.elim)
theorem z19_e1 (Kv : VW) (N0 : List Value -> World -> Prop) (ρ : Rho) (y_2 s_8 : Int) (yn1_9 yn0_10 : Int) (un32_11 un1_13 : Int) (un0_14 q1_15 rhat_16 : Int) (w : World) : z19_k1d y_2 s_8 yn1_9 yn0_10 un32_11 un1_13 un0_14 q1_15 rhat_16 (fun y_2' s_8' yn1_9' yn0_10' un32_11' un1_13' un0_14' q1_15' rhat_16' w' => N0 [(Value.int .u64 y_2'), (Value.int .u64 s_8'), (Value.int .u64 yn1_9'), (Value.int .u64 yn0_10'), (Value.int .u64 un32_11'), (Value.int .u64 un1_13'), (Value.int .u64 un0_14'), (Value.int .u64 q1_15'), (Value.int .u64 rhat_16')] w') (fun r0 r1 w' => Kv (Value.tuple #[(Value.int .u64 r0), (Value.int .u64 r1)]) w') w = goalAt Tryz.prog z19_E 135 (z19_O Kv) 1 (N0 :: ρ) [(Value.int .u64 y_2), (Value.int .u64 s_8), (Value.int .u64 yn1_9), (Value.int .u64 yn0_10), (Value.int .u64 un32_11), (Value.int .u64 un1_13), (Value.int .u64 un0_14), (Value.int .u64 q1_15), (Value.int .u64 rhat_16)] w := by kernel_rfl
theorem z19_q1 (Kv : VW) (ρ : Rho) (vs : List Value) (w : World) : labAt (z19_O Kv) 1 ρ vs w = z19_P1 Kv ρ vs w := by kernel_rfl
theorem z19_h1 (Kv : VW) : holdsAt Tryz.prog z19_E 135 (z19_O Kv) 1 := holdsAt_cut (.inl (by kernel_rfl)) (fun ρ vs w h => by
  rw [z19_q1] at h
  unfold z19_P1 at h
  split at h
  . rw [← z19_e1]; exact h.out
  . exact h.elim)
theorem z19_e2 (Kv : VW) (ρ : Rho) (y_2 s_8 : Int) (yn1_9 yn0_10 : Int) (un32_11 un1_13 : Int) (un0_14 q1_15 : Int) (w : World) : z19_k2d y_2 s_8 yn1_9 yn0_10 un32_11 un1_13 un0_14 q1_15 (fun r0 r1 w' => Kv (Value.tuple #[(Value.int .u64 r0), (Value.int .u64 r1)]) w') w = goalAt Tryz.prog z19_E 135 (z19_O Kv) 2 (ρ) [(Value.int .u64 y_2), (Value.int .u64 s_8), (Value.int .u64 yn1_9), (Value.int .u64 yn0_10), (Value.int .u64 un32_11), (Value.int .u64 un1_13), (Value.int .u64 un0_14), (Value.int .u64 q1_15)] w := by kernel_rfl
theorem z19_q2 (Kv : VW) (ρ : Rho) (vs : List Value) (w : World) : labAt (z19_O Kv) 2 ρ vs w = z19_P2 Kv ρ vs w := by kernel_rfl
theorem z19_h2 (Kv : VW) : holdsAt Tryz.prog z19_E 135 (z19_O Kv) 2 := holdsAt_cut (.inl (by kernel_rfl)) (fun ρ vs w h => by
  rw [z19_q2] at h
  unfold z19_P2 at h
  split at h
  . rw [← z19_e2]; exact h.out
  . exact h.elim)
theorem z19_e3 (Kv : VW) (N3 : List Value -> World -> Prop) (ρ : Rho) (y_2 s_8 : Int) (yn1_9 yn0_10 : Int) (un0_14 q1_15 : Int) (rhat_16 un21_17 q0_18 : Int) (w : World) : z19_b3 y_2 s_8 yn1_9 yn0_10 un0_14 q1_15 rhat_16 un21_17 q0_18 (fun y_2' s_8' yn1_9' yn0_10' un0_14' q1_15' rhat_16' un21_17' q0_18' w' => N3 [(Value.int .u64 y_2'), (Value.int .u64 s_8'), (Value.int .u64 yn1_9'), (Value.int .u64 yn0_10'), (Value.int .u64 un0_14'), (Value.int .u64 q1_15'), (Value.int .u64 rhat_16'), (Value.int .u64 un21_17'), (Value.int .u64 q0_18')] w') (fun r0 r1 w' => Kv (Value.tuple #[(Value.int .u64 r0), (Value.int .u64 r1)]) w') w = goalAt Tryz.prog z19_E 135 (z19_O Kv) 3 (N3 :: ρ) [(Value.int .u64 y_2), (Value.int .u64 s_8), (Value.int .u64 yn1_9), (Value.int .u64 yn0_10), (Value.int .u64 un0_14), (Value.int .u64 q1_15), (Value.int .u64 rhat_16), (Value.int .u64 un21_17), (Value.int .u64 q0_18)] w := by kernel_rfl
theorem z19_q3 (Kv : VW) (ρ : Rho) (vs : List Value) (w : World) : labAt (z19_O Kv) 3 ρ vs w = z19_P3 Kv ρ vs w := by kernel_rfl
def z19_I3 (y_20 s_80 : Int) (yn1_90 yn0_100 : Int) (un0_140 q1_150 un21_170 : Int) (I : Int -> Int -> World -> Prop) (vs : List Value) (w : World) : Prop :=
  match vs with
  | [.int .u64 y_2, .int .u64 s_8, .int .u64 yn1_9, .int .u64 yn0_10, .int .u64 un0_14, .int .u64 q1_15, .int .u64 rhat_16, .int .u64 un21_17, .int .u64 q0_18] => (y_2 = y_20 /\ s_8 = s_80 /\ yn1_9 = yn1_90 /\ yn0_10 = yn0_100 /\ un0_14 = un0_140 /\ q1_15 = q1_150 /\ un21_17 = un21_170 /\ True) /\ I rhat_16 q0_18 w
  | _ => False
def z19_M3 (μ : Int -> Int -> World -> Nat) (vs : List Value) (w : World) : Nat :=
  match vs with
  | [.int .u64 _y_2, .int .u64 _s_8, .int .u64 _yn1_9, .int .u64 _yn0_10, .int .u64 _un0_14, .int .u64 _q1_15, .int .u64 rhat_16, .int .u64 _un21_17, .int .u64 q0_18] => μ rhat_16 q0_18 w
  | _ => 0
theorem z19_h3 (Kv : VW) : holdsAt Tryz.prog z19_E 135 (z19_O Kv) 3 := holdsAt_loop (by kernel_rfl) (fun ρ vs w h => by
  rw [z19_q3] at h
  unfold z19_P3 at h
  split at h
  . rename_i ρt y_2 s_8 yn1_9 yn0_10 un0_14 q1_15 rhat_16 un21_17 q0_18
    obtain ⟨I, μ, h0, hr⟩ := h.out
    refine ⟨z19_I3 y_2 s_8 yn1_9 yn0_10 un0_14 q1_15 un21_17 I, z19_M3 μ, ⟨⟨rfl, rfl, rfl, rfl, rfl, rfl, rfl, trivial⟩, h0⟩, fun vs w hI => ?_⟩
    unfold z19_I3 at hI
    split at hI
    . obtain ⟨⟨h0, h1, h2, h3, h4, h5, h6, _⟩, hI⟩ := hI
      cases h0; cases h1; cases h2; cases h3; cases h4; cases h5; cases h6
      rw [← z19_e3]
      exact hr _ _ _ hI
    . exact hI.elim
  . exact h.elim)
theorem z19_e4 (Kv : VW) (N3 : List Value -> World -> Prop) (ρ : Rho) (y_2 s_8 : Int) (yn1_9 yn0_10 : Int) (un0_14 q1_15 : Int) (rhat_16 un21_17 q0_18 : Int) (w : World) : z19_k4d y_2 s_8 yn1_9 yn0_10 un0_14 q1_15 rhat_16 un21_17 q0_18 (fun y_2' s_8' yn1_9' yn0_10' un0_14' q1_15' rhat_16' un21_17' q0_18' w' => N3 [(Value.int .u64 y_2'), (Value.int .u64 s_8'), (Value.int .u64 yn1_9'), (Value.int .u64 yn0_10'), (Value.int .u64 un0_14'), (Value.int .u64 q1_15'), (Value.int .u64 rhat_16'), (Value.int .u64 un21_17'), (Value.int .u64 q0_18')] w') (fun r0 r1 w' => Kv (Value.tuple #[(Value.int .u64 r0), (Value.int .u64 r1)]) w') w = goalAt Tryz.prog z19_E 135 (z19_O Kv) 4 (N3 :: ρ) [(Value.int .u64 y_2), (Value.int .u64 s_8), (Value.int .u64 yn1_9), (Value.int .u64 yn0_10), (Value.int .u64 un0_14), (Value.int .u64 q1_15), (Value.int .u64 rhat_16), (Value.int .u64 un21_17), (Value.int .u64 q0_18)] w := by kernel_rfl
theorem z19_q4 (Kv : VW) (ρ : Rho) (vs : List Value) (w : World) : labAt (z19_O Kv) 4 ρ vs w = z19_P4 Kv ρ vs w := by kernel_rfl
theorem z19_h4 (Kv : VW) : holdsAt Tryz.prog z19_E 135 (z19_O Kv) 4 := holdsAt_cut (.inl (by kernel_rfl)) (fun ρ vs w h => by
  rw [z19_q4] at h
  unfold z19_P4 at h
  split at h
  . rw [← z19_e4]; exact h.out
  . exact h.elim)
theorem z19_e5 (Kv : VW) (ρ : Rho) (y_2 s_8 : Int) (un0_14 q1_15 : Int) (un21_17 q0_18 : Int) (w : World) : z19_k5d y_2 s_8 un0_14 q1_15 un21_17 q0_18 (fun r0 r1 w' => Kv (Value.tuple #[(Value.int .u64 r0), (Value.int .u64 r1)]) w') w = goalAt Tryz.prog z19_E 135 (z19_O Kv) 5 (ρ) [(Value.int .u64 y_2), (Value.int .u64 s_8), (Value.int .u64 un0_14), (Value.int .u64 q1_15), (Value.int .u64 un21_17), (Value.int .u64 q0_18)] w := by kernel_rfl
theorem z19_q5 (Kv : VW) (ρ : Rho) (vs : List Value) (w : World) : labAt (z19_O Kv) 5 ρ vs w = z19_P5 Kv ρ vs w := by kernel_rfl
theorem z19_h5 (Kv : VW) : holdsAt Tryz.prog z19_E 135 (z19_O Kv) 5 := holdsAt_cut (.inl (by kernel_rfl)) (fun ρ vs w h => by
  rw [z19_q5] at h
  unfold z19_P5 at h
  split at h
  . rw [← z19_e5]; exact h.out
  . exact h.elim)
theorem z19_n (Kv : VW) : obAt (z19_O Kv) 6 = none := by kernel_rfl
theorem z19_h (Kv : VW) : ∀ k, holdsAt Tryz.prog z19_E 135 (z19_O Kv) k := fun k => match k with
  | 0 => z19_h0 Kv
  | 1 => z19_h1 Kv
  | 2 => z19_h2 Kv
  | 3 => z19_h3 Kv
  | 4 => z19_h4 Kv
  | 5 => z19_h5 Kv
  | _k + 6 => holdsAt_ge (z19_n Kv) (Nat.le_add_left _ _)
theorem z19_ok : Sound Tryz.prog 146 z19_S := ⟨Tryz.call146, fun vs w Kv h => by
  unfold z19_S at h
  split at h
  . have h := h.out
    rw [z19_e] at h
    exact calls_sound (Γ := z19_E) progMixed ⟨.inl z04_ok, trivial⟩ Tryz.func146 (code := z19_C) (by kernel_rfl) (z19_A Kv) Kv (holds_all (z19_h Kv)) (Nat.le_of_ble_eq_true (by kernel_rfl)) h
  . exact h.elim⟩
/-! ratio_wide_over -/
def z0h_sd (a_0_0 a_0_1 b_1 : Int) (K : Pw.T11) (w : World) : Prop :=
  let w1 := w.alloc (Obj.cells #[(Value.int .u64 a_0_0), (Value.int .u64 a_0_1)] 144)
  let w2 := w1.alloc (Obj.cells #[(Value.int .u64 0), (Value.int .u64 0)] 144)
  let w3 := w2.drew
  ∃ x4 : Int, w3.cell? (Addr.mk w.heap.size 0 none) = some (Value.int .u64 x4) /\ b_1 ≠ 0 /\ inR .u64 (Int.tdiv x4 b_1) /\ ∃ x5 : Int, w3.cell? (Addr.mk w.heap.size 0 none) = some (Value.int .u64 x5) /\ b_1 ≠ 0 /\ ∃ x6 : Int, w3.cell? (Addr.mk w.heap.size 1 none) = some (Value.int .u64 x6) /\ z19_sh (Int.tmod x5 b_1) x6 b_1 (fun r8 r9 w7 => wrOk w7 (Addr.mk w1.heap.size 0 none) /\ 
  (let w10 := w7.setCell (Addr.mk w1.heap.size 0 none) (Value.int .u64 (Int.tdiv x4 b_1))
  wrOk w10 (Addr.mk w1.heap.size 1 none) /\ 
  (let w11 := w10.setCell (Addr.mk w1.heap.size 1 none) (Value.int .u64 r8)
  ∃ x12 : Int, w11.cell? (Addr.mk w1.heap.size 0 none) = some (Value.int .u64 x12) /\ ∃ x13 : Int, w11.cell? (Addr.mk w1.heap.size 1 none) = some (Value.int .u64 x13) /\ K x12 x13 r9 w11))) w3
structure z0h_sh (a_0_0 a_0_1 b_1 : Int) (K : Pw.T11) (w : World) : Prop where
  out : z0h_sd a_0_0 a_0_1 b_1 K w
noncomputable def z0h_S : Pw.Spec := fun vs w Kv =>
  match vs with
  | [.agg ⟨[.int .u64 a_0_0, .int .u64 a_0_1]⟩, .int .u64 b_1] => z0h_sh a_0_0 a_0_1 b_1 (fun r0_0 r0_1 r1 w' => Kv (Value.tuple #[(Value.agg #[(Value.int .u64 r0_0), (Value.int .u64 r0_1)]), (Value.int .u64 r1)]) w') w
  | _ => False
noncomputable def z0h_E : Pw.Env := [(146, z19_S)]
noncomputable def z0h_C : Code := (Tryz.f135.body).getD .skip
noncomputable def z0h_A (_Kv : VW) : Pw.A :=
  (A.seq (A.reg (Pw.rn 3 RA.done))
   (A.seq (A.drp (DA.pur 0 (DA.pur 1 (DA.pur 2 (DA.pur 3 (DA.pur 4 (DA.pur 5 (DA.pur 6 (DA.pur 7 (DA.pur 8 (DA.pur 9 DA.done)))))))))))
   (A.seq (A.reg (Pw.rn 10 RA.done))
   (A.seq (A.reg (Pw.rn 6 RA.done))
   A.leaf))))
noncomputable def z0h_O (Kv : VW) : List Ob := (obs Tryz.prog z0h_E 29 (z0h_A Kv) z0h_C (fun _ => retQ Tryz.prog Tryz.f135.results Kv))
theorem z0h_e (Kv : VW) (a_0_0 a_0_1 b_1 : Int) (w : World) : z0h_sd a_0_0 a_0_1 b_1 (fun r0_0 r0_1 r1 w' => Kv (Value.tuple #[(Value.agg #[(Value.int .u64 r0_0), (Value.int .u64 r0_1)]), (Value.int .u64 r1)]) w') w = W Tryz.prog z0h_E 29 (z0h_A Kv) z0h_C [] (retQ Tryz.prog Tryz.f135.results Kv) [] (startS [(Value.agg #[(Value.int .u64 a_0_0), (Value.int .u64 a_0_1)]), (Value.int .u64 b_1)]) w := by kernel_rfl
theorem z0h_n (Kv : VW) : obAt (z0h_O Kv) 0 = none := by kernel_rfl
theorem z0h_h (Kv : VW) : ∀ k, holdsAt Tryz.prog z0h_E 29 (z0h_O Kv) k := fun _ => holdsAt_ge (z0h_n Kv) (Nat.zero_le _)
theorem z0h_ok : Sound Tryz.prog 135 z0h_S := ⟨Tryz.call135, fun vs w Kv h => by
  unfold z0h_S at h
  split at h
  . have h := h.out
    rw [z0h_e] at h
    exact calls_sound (Γ := z0h_E) progMixed ⟨.inl z19_ok, trivial⟩ Tryz.func135 (code := z0h_C) (by kernel_rfl) (z0h_A Kv) Kv (holds_all (z0h_h Kv)) (Nat.le_of_ble_eq_true (by kernel_rfl)) h
  . exact h.elim⟩
/-! ratio_sum -/
def z1p_k1d (x_2 y_3 t_4 : Addr) (g_6 : Int) (n_9 : Addr) (sign_10 : Bool) (K : Pw.T3) (w : World) : Prop :=
  ∃ x149 : Int, w.cell? n_9 = some (Value.int .u64 x149) /\ ∃ x150 : Int, w.cell? (n_9.add 1) = some (Value.int .u64 x150) /\ cnd (x149 == (0 : Int) && (x150 == (0 : Int) && true))
    (z1e_sh (fun r152_0 r152_1 w151 => wrOk w151 t_4 /\ 
  (let w153 := w151.setCell t_4 (Value.int .i64 r152_0)
  wrOk w153 (t_4.add 1) /\ 
  (let w154 := w153.setCell (t_4.add 1) (Value.int .i64 r152_1)
  ∃ x155 : Int, w154.cell? t_4 = some (Value.int .i64 x155) /\ ∃ x156 : Int, w154.cell? (t_4.add 1) = some (Value.int .i64 x156) /\ K x155 x156 true w154))) w)
    (∃ x157 : Int, w.cell? n_9 = some (Value.int .u64 x157) /\ ∃ x158 : Int, w.cell? (n_9.add 1) = some (Value.int .u64 x158) /\ z0h_sh x157 x158 g_6 (fun r160_0 r160_1 r161 w159 => let w162 := w159.alloc (Obj.cells #[(Value.int .u64 0), (Value.int .u64 0)] 144)
  wrOk w162 (Addr.mk w159.heap.size 0 none) /\ 
  (let w163 := w162.setCell (Addr.mk w159.heap.size 0 none) (Value.int .u64 r160_0)
  wrOk w163 (Addr.mk w159.heap.size 1 none) /\ 
  (let w164 := w163.setCell (Addr.mk w159.heap.size 1 none) (Value.int .u64 r160_1)
  z1t_sh g_6 r161 (fun r166 w165 => ∃ x167 : Int, w165.cell? n_9 = some (Value.int .u64 x167) /\ ∃ x168 : Int, w165.cell? (n_9.add 1) = some (Value.int .u64 x168) /\ z0h_sh x167 x168 r166 (fun r170_0 r170_1 _r171 w169 => wrOk w169 n_9 /\ 
  (let w172 := w169.setCell n_9 (Value.int .u64 r170_0)
  wrOk w172 (n_9.add 1) /\ 
  (let w173 := w172.setCell (n_9.add 1) (Value.int .u64 r170_1)
  let w174 := w173.drew
  ∃ S175 : World -> Prop, S175 w174 /\ ∃ x176 : Int, (∀ w' : World, S175 w' -> w'.cell? n_9 = some (Value.int .u64 x176)) /\ ∃ x177 : Int, (∀ w' : World, S175 w' -> w'.cell? (n_9.add 1) = some (Value.int .u64 x177)) /\ ∃ x178 : Int, (∀ w' : World, S175 w' -> w'.cell? (x_2.add 2) = some (Value.int .u64 x178)) /\ g_6 ≠ 0 /\ inR .u64 (Int.tdiv x178 g_6) /\ ∃ x179 : Int, (∀ w' : World, S175 w' -> w'.cell? (y_3.add 2) = some (Value.int .u64 x179)) /\ r166 ≠ 0 /\ inR .u64 (Int.tdiv x179 r166) /\ z0p_sh (Int.tdiv x178 g_6) (Int.tdiv x179 r166) (fun r181_0 r181_1 w180 => S175 w180 /\ z1z_sh sign_10 x176 x177 r181_0 r181_1 (fun r183_0 r183_1 r184 w182 => S175 w182 /\ wrOk w182 t_4 /\ 
  (let w185 := w182.setCell t_4 (Value.int .i64 r183_0)
  wrOk w185 (t_4.add 1) /\ 
  (let w186 := w185.setCell (t_4.add 1) (Value.int .i64 r183_1)
  ∃ x187 : Int, w186.cell? t_4 = some (Value.int .i64 x187) /\ ∃ x188 : Int, w186.cell? (t_4.add 1) = some (Value.int .i64 x188) /\ K x187 x188 r184 w186))) w180) w174))) w165) w164))) w)
structure z1p_k1 (x_2 y_3 t_4 : Addr) (g_6 : Int) (n_9 : Addr) (sign_10 : Bool) (K : Pw.T3) (w : World) : Prop where
  out : z1p_k1d x_2 y_3 t_4 g_6 n_9 sign_10 K w
def z1p_k0d (x_2 y_3 t_4 : Addr) (g_6 : Int) (a_7 b_8 : Addr) (K : Pw.T3) (w : World) : Prop :=
  let w112 := w.alloc (Obj.cells #[(Value.int .u64 0), (Value.int .u64 0)] 144)
  ∃ x113 : Bool, w112.cell? x_2 = some (Value.bool x113) /\ ∃ x114 : Bool, w112.cell? x_2 = some (Value.bool x114) /\ ∃ x115 : Bool, w112.cell? y_3 = some (Value.bool x115) /\ cnd (x114 == x115)
    (∃ x116 : Int, w112.cell? a_7 = some (Value.int .u64 x116) /\ ∃ x117 : Int, w112.cell? (a_7.add 1) = some (Value.int .u64 x117) /\ ∃ x118 : Int, w112.cell? b_8 = some (Value.int .u64 x118) /\ ∃ x119 : Int, w112.cell? (b_8.add 1) = some (Value.int .u64 x119) /\ z0l_sh x116 x117 x118 x119 (fun r121_0 r121_1 w120 => wrOk w120 (Addr.mk w.heap.size 0 none) /\ 
  (let w122 := w120.setCell (Addr.mk w.heap.size 0 none) (Value.int .u64 r121_0)
  wrOk w122 (Addr.mk w.heap.size 1 none) /\ 
  (let w123 := w122.setCell (Addr.mk w.heap.size 1 none) (Value.int .u64 r121_1)
  z1p_k1 x_2 y_3 t_4 g_6 (Addr.mk w.heap.size 0 none) x113 K w123))) w112)
    (∃ x124 : Int, w112.cell? a_7 = some (Value.int .u64 x124) /\ ∃ x125 : Int, w112.cell? (a_7.add 1) = some (Value.int .u64 x125) /\ ∃ x126 : Int, w112.cell? b_8 = some (Value.int .u64 x126) /\ ∃ x127 : Int, w112.cell? (b_8.add 1) = some (Value.int .u64 x127) /\ z0o_sh x124 x125 x126 x127 (fun r129 w128 => cnd (decide (r129 >= (0 : Int)))
    (∃ x130 : Int, w128.cell? a_7 = some (Value.int .u64 x130) /\ ∃ x131 : Int, w128.cell? (a_7.add 1) = some (Value.int .u64 x131) /\ ∃ x132 : Int, w128.cell? b_8 = some (Value.int .u64 x132) /\ ∃ x133 : Int, w128.cell? (b_8.add 1) = some (Value.int .u64 x133) /\ z0k_sh x130 x131 x132 x133 (fun r135_0 r135_1 w134 => wrOk w134 (Addr.mk w.heap.size 0 none) /\ 
  (let w136 := w134.setCell (Addr.mk w.heap.size 0 none) (Value.int .u64 r135_0)
  wrOk w136 (Addr.mk w.heap.size 1 none) /\ 
  (let w137 := w136.setCell (Addr.mk w.heap.size 1 none) (Value.int .u64 r135_1)
  z1p_k1 x_2 y_3 t_4 g_6 (Addr.mk w.heap.size 0 none) x113 K w137))) w128)
    (let w138 := w128.drew
  ∃ S139 : World -> Prop, S139 w138 /\ ∃ x140 : Int, (∀ w' : World, S139 w' -> w'.cell? b_8 = some (Value.int .u64 x140)) /\ ∃ x141 : Int, (∀ w' : World, S139 w' -> w'.cell? (b_8.add 1) = some (Value.int .u64 x141)) /\ ∃ x142 : Int, (∀ w' : World, S139 w' -> w'.cell? a_7 = some (Value.int .u64 x142)) /\ ∃ x143 : Int, (∀ w' : World, S139 w' -> w'.cell? (a_7.add 1) = some (Value.int .u64 x143)) /\ ∃ x144 : Bool, (∀ w' : World, S139 w' -> w'.cell? y_3 = some (Value.bool x144)) /\ z0k_sh x140 x141 x142 x143 (fun r146_0 r146_1 w145 => S139 w145 /\ wrOk w145 (Addr.mk w.heap.size 0 none) /\ 
  (let w147 := w145.setCell (Addr.mk w.heap.size 0 none) (Value.int .u64 r146_0)
  wrOk w147 (Addr.mk w.heap.size 1 none) /\ 
  (let w148 := w147.setCell (Addr.mk w.heap.size 1 none) (Value.int .u64 r146_1)
  S139 w148 /\ z1p_k1 x_2 y_3 t_4 g_6 (Addr.mk w.heap.size 0 none) x144 K w148))) w138)) w112)
structure z1p_k0 (x_2 y_3 t_4 : Addr) (g_6 : Int) (a_7 b_8 : Addr) (K : Pw.T3) (w : World) : Prop where
  out : z1p_k0d x_2 y_3 t_4 g_6 a_7 b_8 K w
def z1p_sd (x_0_0 : Bool) (x_0_1 x_0_2 : Int) (y_1_0 : Bool) (y_1_1 y_1_2 : Int) (K : Pw.T3) (w : World) : Prop :=
  let w1 := w.alloc (Obj.cells #[(Value.bool x_0_0), (Value.int .u64 x_0_1), (Value.int .u64 x_0_2)] 137)
  let w2 := w1.alloc (Obj.cells #[(Value.bool y_1_0), (Value.int .u64 y_1_1), (Value.int .u64 y_1_2)] 137)
  let w3 := w2.alloc (Obj.cells #[(Value.int .i64 0), (Value.int .i64 0)] 44)
  ∃ x4 : Int, w3.cell? (Addr.mk w.heap.size 2 none) = some (Value.int .u64 x4) /\ ∃ x5 : Int, w3.cell? (Addr.mk w1.heap.size 2 none) = some (Value.int .u64 x5) /\ z1t_sh x4 x5 (fun r7 w6 => let w8 := w6.drew
  ∃ S9 : World -> Prop, S9 w8 /\ ∃ x10 : Int, (∀ w' : World, S9 w' -> w'.cell? (Addr.mk w.heap.size 1 none) = some (Value.int .u64 x10)) /\ ∃ x11 : Int, (∀ w' : World, S9 w' -> w'.cell? (Addr.mk w1.heap.size 2 none) = some (Value.int .u64 x11)) /\ r7 ≠ 0 /\ inR .u64 (Int.tdiv x11 r7) /\ ∃ x12 : Int, (∀ w' : World, S9 w' -> w'.cell? (Addr.mk w1.heap.size 1 none) = some (Value.int .u64 x12)) /\ ∃ x13 : Int, (∀ w' : World, S9 w' -> w'.cell? (Addr.mk w.heap.size 2 none) = some (Value.int .u64 x13)) /\ r7 ≠ 0 /\ inR .u64 (Int.tdiv x13 r7) /\ (z0p_sh x10 (Int.tdiv x11 r7) (fun r15_0 r15_1 w14 => S9 w14 /\ (z0p_sh x12 (Int.tdiv x13 r7) (fun r17_0 r17_1 w16 => S9 w16 /\ (let w18 := w16.alloc (Obj.cells #[(Value.int .u64 0), (Value.int .u64 0)] 144)
  S9 w18 /\ let w19 := w18.alloc (Obj.cells #[(Value.int .u64 0), (Value.int .u64 0)] 144)
  S9 w19 /\ wrOk w19 (Addr.mk w16.heap.size 0 none) /\ 
  (let w20 := w19.setCell (Addr.mk w16.heap.size 0 none) (Value.int .u64 r15_0)
  wrOk w20 (Addr.mk w16.heap.size 1 none) /\ 
  (let w21 := w20.setCell (Addr.mk w16.heap.size 1 none) (Value.int .u64 r15_1)
  S9 w21 /\ wrOk w21 (Addr.mk w18.heap.size 0 none) /\ 
  (let w22 := w21.setCell (Addr.mk w18.heap.size 0 none) (Value.int .u64 r17_0)
  wrOk w22 (Addr.mk w18.heap.size 1 none) /\ 
  (let w23 := w22.setCell (Addr.mk w18.heap.size 1 none) (Value.int .u64 r17_1)
  z1p_k0 (Addr.mk w.heap.size 0 none) (Addr.mk w1.heap.size 0 none) (Addr.mk w2.heap.size 0 none) r7 (Addr.mk w16.heap.size 0 none) (Addr.mk w18.heap.size 0 none) K w23)))))
    /\ (let w24 := w16.alloc (Obj.cells #[(Value.int .u64 0), (Value.int .u64 0)] 144)
  S9 w24 /\ let w25 := w24.alloc (Obj.cells #[(Value.int .u64 0), (Value.int .u64 0)] 144)
  S9 w25 /\ wrOk w25 (Addr.mk w24.heap.size 0 none) /\ 
  (let w26 := w25.setCell (Addr.mk w24.heap.size 0 none) (Value.int .u64 r15_0)
  wrOk w26 (Addr.mk w24.heap.size 1 none) /\ 
  (let w27 := w26.setCell (Addr.mk w24.heap.size 1 none) (Value.int .u64 r15_1)
  S9 w27 /\ wrOk w27 (Addr.mk w16.heap.size 0 none) /\ 
  (let w28 := w27.setCell (Addr.mk w16.heap.size 0 none) (Value.int .u64 r17_0)
  wrOk w28 (Addr.mk w16.heap.size 1 none) /\ 
  (let w29 := w28.setCell (Addr.mk w16.heap.size 1 none) (Value.int .u64 r17_1)
  z1p_k0 (Addr.mk w.heap.size 0 none) (Addr.mk w1.heap.size 0 none) (Addr.mk w2.heap.size 0 none) r7 (Addr.mk w24.heap.size 0 none) (Addr.mk w16.heap.size 0 none) K w29)))))) w14)
    /\ (let w30 := w14.alloc (Obj.cells #[(Value.int .u64 0), (Value.int .u64 0)] 144)
  S9 w30 /\ (z0p_sh x12 (Int.tdiv x13 r7) (fun r32_0 r32_1 w31 => S9 w31 /\ let w33 := w31.alloc (Obj.cells #[(Value.int .u64 0), (Value.int .u64 0)] 144)
  S9 w33 /\ wrOk w33 (Addr.mk w14.heap.size 0 none) /\ 
  (let w34 := w33.setCell (Addr.mk w14.heap.size 0 none) (Value.int .u64 r15_0)
  wrOk w34 (Addr.mk w14.heap.size 1 none) /\ 
  (let w35 := w34.setCell (Addr.mk w14.heap.size 1 none) (Value.int .u64 r15_1)
  S9 w35 /\ wrOk w35 (Addr.mk w31.heap.size 0 none) /\ 
  (let w36 := w35.setCell (Addr.mk w31.heap.size 0 none) (Value.int .u64 r32_0)
  wrOk w36 (Addr.mk w31.heap.size 1 none) /\ 
  (let w37 := w36.setCell (Addr.mk w31.heap.size 1 none) (Value.int .u64 r32_1)
  z1p_k0 (Addr.mk w.heap.size 0 none) (Addr.mk w1.heap.size 0 none) (Addr.mk w2.heap.size 0 none) r7 (Addr.mk w14.heap.size 0 none) (Addr.mk w31.heap.size 0 none) K w37))))) w30)
    /\ (let w38 := w30.alloc (Obj.cells #[(Value.int .u64 0), (Value.int .u64 0)] 144)
  S9 w38 /\ z0p_sh x12 (Int.tdiv x13 r7) (fun r40_0 r40_1 w39 => S9 w39 /\ wrOk w39 (Addr.mk w14.heap.size 0 none) /\ 
  (let w41 := w39.setCell (Addr.mk w14.heap.size 0 none) (Value.int .u64 r15_0)
  wrOk w41 (Addr.mk w14.heap.size 1 none) /\ 
  (let w42 := w41.setCell (Addr.mk w14.heap.size 1 none) (Value.int .u64 r15_1)
  S9 w42 /\ wrOk w42 (Addr.mk w30.heap.size 0 none) /\ 
  (let w43 := w42.setCell (Addr.mk w30.heap.size 0 none) (Value.int .u64 r40_0)
  wrOk w43 (Addr.mk w30.heap.size 1 none) /\ 
  (let w44 := w43.setCell (Addr.mk w30.heap.size 1 none) (Value.int .u64 r40_1)
  z1p_k0 (Addr.mk w.heap.size 0 none) (Addr.mk w1.heap.size 0 none) (Addr.mk w2.heap.size 0 none) r7 (Addr.mk w14.heap.size 0 none) (Addr.mk w30.heap.size 0 none) K w44))))) w38))
    /\ (let w45 := w14.alloc (Obj.cells #[(Value.int .u64 0), (Value.int .u64 0)] 144)
  S9 w45 /\ (z0p_sh x12 (Int.tdiv x13 r7) (fun r47_0 r47_1 w46 => S9 w46 /\ let w48 := w46.alloc (Obj.cells #[(Value.int .u64 0), (Value.int .u64 0)] 144)
  S9 w48 /\ wrOk w48 (Addr.mk w46.heap.size 0 none) /\ 
  (let w49 := w48.setCell (Addr.mk w46.heap.size 0 none) (Value.int .u64 r15_0)
  wrOk w49 (Addr.mk w46.heap.size 1 none) /\ 
  (let w50 := w49.setCell (Addr.mk w46.heap.size 1 none) (Value.int .u64 r15_1)
  S9 w50 /\ wrOk w50 (Addr.mk w14.heap.size 0 none) /\ 
  (let w51 := w50.setCell (Addr.mk w14.heap.size 0 none) (Value.int .u64 r47_0)
  wrOk w51 (Addr.mk w14.heap.size 1 none) /\ 
  (let w52 := w51.setCell (Addr.mk w14.heap.size 1 none) (Value.int .u64 r47_1)
  z1p_k0 (Addr.mk w.heap.size 0 none) (Addr.mk w1.heap.size 0 none) (Addr.mk w2.heap.size 0 none) r7 (Addr.mk w46.heap.size 0 none) (Addr.mk w14.heap.size 0 none) K w52))))) w45)
    /\ (let w53 := w45.alloc (Obj.cells #[(Value.int .u64 0), (Value.int .u64 0)] 144)
  S9 w53 /\ z0p_sh x12 (Int.tdiv x13 r7) (fun r55_0 r55_1 w54 => S9 w54 /\ wrOk w54 (Addr.mk w45.heap.size 0 none) /\ 
  (let w56 := w54.setCell (Addr.mk w45.heap.size 0 none) (Value.int .u64 r15_0)
  wrOk w56 (Addr.mk w45.heap.size 1 none) /\ 
  (let w57 := w56.setCell (Addr.mk w45.heap.size 1 none) (Value.int .u64 r15_1)
  S9 w57 /\ wrOk w57 (Addr.mk w14.heap.size 0 none) /\ 
  (let w58 := w57.setCell (Addr.mk w14.heap.size 0 none) (Value.int .u64 r55_0)
  wrOk w58 (Addr.mk w14.heap.size 1 none) /\ 
  (let w59 := w58.setCell (Addr.mk w14.heap.size 1 none) (Value.int .u64 r55_1)
  z1p_k0 (Addr.mk w.heap.size 0 none) (Addr.mk w1.heap.size 0 none) (Addr.mk w2.heap.size 0 none) r7 (Addr.mk w45.heap.size 0 none) (Addr.mk w14.heap.size 0 none) K w59))))) w53))) w8)
    /\ (let w60 := w8.alloc (Obj.cells #[(Value.int .u64 0), (Value.int .u64 0)] 144)
  S9 w60 /\ (z0p_sh x10 (Int.tdiv x11 r7) (fun r62_0 r62_1 w61 => S9 w61 /\ (z0p_sh x12 (Int.tdiv x13 r7) (fun r64_0 r64_1 w63 => S9 w63 /\ let w65 := w63.alloc (Obj.cells #[(Value.int .u64 0), (Value.int .u64 0)] 144)
  S9 w65 /\ wrOk w65 (Addr.mk w8.heap.size 0 none) /\ 
  (let w66 := w65.setCell (Addr.mk w8.heap.size 0 none) (Value.int .u64 r62_0)
  wrOk w66 (Addr.mk w8.heap.size 1 none) /\ 
  (let w67 := w66.setCell (Addr.mk w8.heap.size 1 none) (Value.int .u64 r62_1)
  S9 w67 /\ wrOk w67 (Addr.mk w63.heap.size 0 none) /\ 
  (let w68 := w67.setCell (Addr.mk w63.heap.size 0 none) (Value.int .u64 r64_0)
  wrOk w68 (Addr.mk w63.heap.size 1 none) /\ 
  (let w69 := w68.setCell (Addr.mk w63.heap.size 1 none) (Value.int .u64 r64_1)
  z1p_k0 (Addr.mk w.heap.size 0 none) (Addr.mk w1.heap.size 0 none) (Addr.mk w2.heap.size 0 none) r7 (Addr.mk w8.heap.size 0 none) (Addr.mk w63.heap.size 0 none) K w69))))) w61)
    /\ (let w70 := w61.alloc (Obj.cells #[(Value.int .u64 0), (Value.int .u64 0)] 144)
  S9 w70 /\ z0p_sh x12 (Int.tdiv x13 r7) (fun r72_0 r72_1 w71 => S9 w71 /\ wrOk w71 (Addr.mk w8.heap.size 0 none) /\ 
  (let w73 := w71.setCell (Addr.mk w8.heap.size 0 none) (Value.int .u64 r62_0)
  wrOk w73 (Addr.mk w8.heap.size 1 none) /\ 
  (let w74 := w73.setCell (Addr.mk w8.heap.size 1 none) (Value.int .u64 r62_1)
  S9 w74 /\ wrOk w74 (Addr.mk w61.heap.size 0 none) /\ 
  (let w75 := w74.setCell (Addr.mk w61.heap.size 0 none) (Value.int .u64 r72_0)
  wrOk w75 (Addr.mk w61.heap.size 1 none) /\ 
  (let w76 := w75.setCell (Addr.mk w61.heap.size 1 none) (Value.int .u64 r72_1)
  z1p_k0 (Addr.mk w.heap.size 0 none) (Addr.mk w1.heap.size 0 none) (Addr.mk w2.heap.size 0 none) r7 (Addr.mk w8.heap.size 0 none) (Addr.mk w61.heap.size 0 none) K w76))))) w70)) w60)
    /\ (let w77 := w60.alloc (Obj.cells #[(Value.int .u64 0), (Value.int .u64 0)] 144)
  S9 w77 /\ z0p_sh x10 (Int.tdiv x11 r7) (fun r79_0 r79_1 w78 => S9 w78 /\ z0p_sh x12 (Int.tdiv x13 r7) (fun r81_0 r81_1 w80 => S9 w80 /\ wrOk w80 (Addr.mk w8.heap.size 0 none) /\ 
  (let w82 := w80.setCell (Addr.mk w8.heap.size 0 none) (Value.int .u64 r79_0)
  wrOk w82 (Addr.mk w8.heap.size 1 none) /\ 
  (let w83 := w82.setCell (Addr.mk w8.heap.size 1 none) (Value.int .u64 r79_1)
  S9 w83 /\ wrOk w83 (Addr.mk w60.heap.size 0 none) /\ 
  (let w84 := w83.setCell (Addr.mk w60.heap.size 0 none) (Value.int .u64 r81_0)
  wrOk w84 (Addr.mk w60.heap.size 1 none) /\ 
  (let w85 := w84.setCell (Addr.mk w60.heap.size 1 none) (Value.int .u64 r81_1)
  z1p_k0 (Addr.mk w.heap.size 0 none) (Addr.mk w1.heap.size 0 none) (Addr.mk w2.heap.size 0 none) r7 (Addr.mk w8.heap.size 0 none) (Addr.mk w60.heap.size 0 none) K w85))))) w78) w77))
    /\ (let w86 := w8.alloc (Obj.cells #[(Value.int .u64 0), (Value.int .u64 0)] 144)
  S9 w86 /\ (z0p_sh x10 (Int.tdiv x11 r7) (fun r88_0 r88_1 w87 => S9 w87 /\ (z0p_sh x12 (Int.tdiv x13 r7) (fun r90_0 r90_1 w89 => S9 w89 /\ let w91 := w89.alloc (Obj.cells #[(Value.int .u64 0), (Value.int .u64 0)] 144)
  S9 w91 /\ wrOk w91 (Addr.mk w89.heap.size 0 none) /\ 
  (let w92 := w91.setCell (Addr.mk w89.heap.size 0 none) (Value.int .u64 r88_0)
  wrOk w92 (Addr.mk w89.heap.size 1 none) /\ 
  (let w93 := w92.setCell (Addr.mk w89.heap.size 1 none) (Value.int .u64 r88_1)
  S9 w93 /\ wrOk w93 (Addr.mk w8.heap.size 0 none) /\ 
  (let w94 := w93.setCell (Addr.mk w8.heap.size 0 none) (Value.int .u64 r90_0)
  wrOk w94 (Addr.mk w8.heap.size 1 none) /\ 
  (let w95 := w94.setCell (Addr.mk w8.heap.size 1 none) (Value.int .u64 r90_1)
  z1p_k0 (Addr.mk w.heap.size 0 none) (Addr.mk w1.heap.size 0 none) (Addr.mk w2.heap.size 0 none) r7 (Addr.mk w89.heap.size 0 none) (Addr.mk w8.heap.size 0 none) K w95))))) w87)
    /\ (let w96 := w87.alloc (Obj.cells #[(Value.int .u64 0), (Value.int .u64 0)] 144)
  S9 w96 /\ z0p_sh x12 (Int.tdiv x13 r7) (fun r98_0 r98_1 w97 => S9 w97 /\ wrOk w97 (Addr.mk w87.heap.size 0 none) /\ 
  (let w99 := w97.setCell (Addr.mk w87.heap.size 0 none) (Value.int .u64 r88_0)
  wrOk w99 (Addr.mk w87.heap.size 1 none) /\ 
  (let w100 := w99.setCell (Addr.mk w87.heap.size 1 none) (Value.int .u64 r88_1)
  S9 w100 /\ wrOk w100 (Addr.mk w8.heap.size 0 none) /\ 
  (let w101 := w100.setCell (Addr.mk w8.heap.size 0 none) (Value.int .u64 r98_0)
  wrOk w101 (Addr.mk w8.heap.size 1 none) /\ 
  (let w102 := w101.setCell (Addr.mk w8.heap.size 1 none) (Value.int .u64 r98_1)
  z1p_k0 (Addr.mk w.heap.size 0 none) (Addr.mk w1.heap.size 0 none) (Addr.mk w2.heap.size 0 none) r7 (Addr.mk w87.heap.size 0 none) (Addr.mk w8.heap.size 0 none) K w102))))) w96)) w86)
    /\ (let w103 := w86.alloc (Obj.cells #[(Value.int .u64 0), (Value.int .u64 0)] 144)
  S9 w103 /\ z0p_sh x10 (Int.tdiv x11 r7) (fun r105_0 r105_1 w104 => S9 w104 /\ z0p_sh x12 (Int.tdiv x13 r7) (fun r107_0 r107_1 w106 => S9 w106 /\ wrOk w106 (Addr.mk w86.heap.size 0 none) /\ 
  (let w108 := w106.setCell (Addr.mk w86.heap.size 0 none) (Value.int .u64 r105_0)
  wrOk w108 (Addr.mk w86.heap.size 1 none) /\ 
  (let w109 := w108.setCell (Addr.mk w86.heap.size 1 none) (Value.int .u64 r105_1)
  S9 w109 /\ wrOk w109 (Addr.mk w8.heap.size 0 none) /\ 
  (let w110 := w109.setCell (Addr.mk w8.heap.size 0 none) (Value.int .u64 r107_0)
  wrOk w110 (Addr.mk w8.heap.size 1 none) /\ 
  (let w111 := w110.setCell (Addr.mk w8.heap.size 1 none) (Value.int .u64 r107_1)
  z1p_k0 (Addr.mk w.heap.size 0 none) (Addr.mk w1.heap.size 0 none) (Addr.mk w2.heap.size 0 none) r7 (Addr.mk w86.heap.size 0 none) (Addr.mk w8.heap.size 0 none) K w111))))) w104) w103))) w3
structure z1p_sh (x_0_0 : Bool) (x_0_1 x_0_2 : Int) (y_1_0 : Bool) (y_1_1 y_1_2 : Int) (K : Pw.T3) (w : World) : Prop where
  out : z1p_sd x_0_0 x_0_1 x_0_2 y_1_0 y_1_1 y_1_2 K w
def z1p_P0 (Kv : VW) (ρ : Rho) (vs : List Value) (w : World) : Prop :=
  match ρ, vs with
  | _, [.pointer (some x_2), .pointer (some y_3), .pointer (some t_4), .int .u64 g_6, .pointer (some a_7), .pointer (some b_8)] => z1p_k0 x_2 y_3 t_4 g_6 a_7 b_8 (Pw.kR Kv) w
  | _, _ => False
def z1p_P1 (Kv : VW) (ρ : Rho) (vs : List Value) (w : World) : Prop :=
  match ρ, vs with
  | _, [.pointer (some x_2), .pointer (some y_3), .pointer (some t_4), .int .u64 g_6, .pointer (some n_9), .bool sign_10] => z1p_k1 x_2 y_3 t_4 g_6 n_9 sign_10 (Pw.kR Kv) w
  | _, _ => False
noncomputable def z1p_S : Pw.Spec := fun vs w Kv =>
  match vs with
  | [.agg ⟨[.bool x_0_0, .int .u64 x_0_1, .int .u64 x_0_2]⟩, .agg ⟨[.bool y_1_0, .int .u64 y_1_1, .int .u64 y_1_2]⟩] => z1p_sh x_0_0 x_0_1 x_0_2 y_1_0 y_1_1 y_1_2 (Pw.kR Kv) w
  | _ => False
noncomputable def z1p_E : Pw.Env := [(110, z1e_S), (118, z0o_S), (119, z0p_S), (131, z1t_S), (132, z1z_S), (133, z0l_S), (134, z0k_S), (135, z0h_S)]
noncomputable def z1p_C : Code := (Tryz.f115.body).getD .skip
noncomputable def z1p_A (Kv : VW) : Pw.A :=
  (A.seq (A.reg (Pw.rn 4 RA.done))
   (A.seq (A.reg (Pw.rn 6 RA.done))
   (A.seq (A.drw (DA.pur 0 (DA.pur 1 (DA.pur 2 (DA.pur 3 (DA.pur 4 (DA.pur 5 (DA.pur 7 (DA.pur 8 (DA.pur 9 (DA.pur 10 (DA.pur 11 (DA.pur 12 (DA.thr 6 (DA.thr 13 (DA.two 14 (DA.eff 15 (DA.eff 16 (DA.eff 17 DA.done))) 15 (DA.eff 14 (DA.eff 16 (DA.eff 17 DA.done)))) 14 (DA.two 13 (DA.eff 15 (DA.eff 16 (DA.eff 17 DA.done))) 15 (DA.eff 13 (DA.eff 16 (DA.eff 17 DA.done)))) 15 (DA.two 13 (DA.eff 14 (DA.eff 16 (DA.eff 17 DA.done))) 14 (DA.eff 13 (DA.eff 16 (DA.eff 17 DA.done))))) 14 (DA.two 6 (DA.two 13 (DA.eff 15 (DA.eff 16 (DA.eff 17 DA.done))) 15 (DA.eff 13 (DA.eff 16 (DA.eff 17 DA.done)))) 15 (DA.eff 6 (DA.eff 13 (DA.eff 16 (DA.eff 17 DA.done))))) 15 (DA.two 6 (DA.two 13 (DA.eff 14 (DA.eff 16 (DA.eff 17 DA.done))) 14 (DA.eff 13 (DA.eff 16 (DA.eff 17 DA.done)))) 14 (DA.eff 6 (DA.eff 13 (DA.eff 16 (DA.eff 17 DA.done)))))))))))))))))))
   (A.cut [2, 3, 4, 6, 7, 8] (z1p_P0 Kv) (A.seq (A.reg (RA.run RA.done))
   (A.seq (A.reg (Pw.rn 3 RA.done))
   (A.seq (A.blk (A.seq (A.reg (Pw.rn 6 RA.done))
   (A.cond (A.reg (Pw.rn 4 RA.done))
   (A.seq (A.reg (Pw.rn 5 RA.done))
   (A.cond (A.reg (Pw.rn 4 RA.done))
   (A.drw (DA.pur 0 (DA.pur 1 (DA.pur 3 (DA.pur 4 (DA.eff 2 (DA.eff 5 (DA.pur 6 DA.done)))))))))))))
   (A.cut [2, 3, 4, 6, 9, 10] (z1p_P1 Kv) (A.seq (A.seq (A.reg (Pw.rn 3 RA.done))
   (A.cond (A.seq (A.reg (Pw.rn 3 RA.done))
   A.leaf)
   A.leaf))
   (A.seq (A.reg (Pw.rn 9 RA.done))
   (A.seq (A.reg (Pw.rn 4 RA.done))
   (A.seq (A.reg (Pw.rn 7 RA.done))
   (A.seq (A.drw (DA.pur 0 (DA.pur 1 (DA.pur 2 (DA.pur 3 (DA.pur 4 (DA.pur 5 (DA.pur 6 (DA.pur 7 (DA.pur 8 (DA.pur 9 (DA.eff 10 (DA.eff 11 (DA.pur 12 (DA.pur 13 (DA.eff 14 (DA.pur 15 DA.done)))))))))))))))))
   A.leaf)))))))))))))
noncomputable def z1p_O (Kv : VW) : List Ob := (obs Tryz.prog z1p_E 90 (z1p_A Kv) z1p_C (fun _ => retQ Tryz.prog Tryz.f115.results Kv))
theorem z1p_e (Kv : VW) (x_0_0 : Bool) (x_0_1 x_0_2 : Int) (y_1_0 : Bool) (y_1_1 y_1_2 : Int) (w : World) : z1p_sd x_0_0 x_0_1 x_0_2 y_1_0 y_1_1 y_1_2 (Pw.kR Kv) w = W Tryz.prog z1p_E 90 (z1p_A Kv) z1p_C [] (retQ Tryz.prog Tryz.f115.results Kv) [] (startS [(Value.agg #[(Value.bool x_0_0), (Value.int .u64 x_0_1), (Value.int .u64 x_0_2)]), (Value.agg #[(Value.bool y_1_0), (Value.int .u64 y_1_1), (Value.int .u64 y_1_2)])]) w := by kernel_rfl
theorem z1p_e0 (Kv : VW) (ρ : Rho) (x_2 y_3 t_4 : Addr) (g_6 : Int) (a_7 b_8 : Addr) (w : World) : z1p_k0d x_2 y_3 t_4 g_6 a_7 b_8 (Pw.kR Kv) w = goalAt Tryz.prog z1p_E 90 (z1p_O Kv) 0 (ρ) [(Value.pointer (some x_2)), (Value.pointer (some y_3)), (Value.pointer (some t_4)), (Value.int .u64 g_6), (Value.pointer (some a_7)), (Value.pointer (some b_8))] w := by kernel_rfl
theorem z1p_q0 (Kv : VW) (ρ : Rho) (vs : List Value) (w : World) : labAt (z1p_O Kv) 0 ρ vs w = z1p_P0 Kv ρ vs w := by kernel_rfl
theorem z1p_h0 (Kv : VW) : holdsAt Tryz.prog z1p_E 90 (z1p_O Kv) 0 := holdsAt_cut (.inl (by kernel_rfl)) (fun ρ vs w h => by
  rw [z1p_q0] at h
  unfold z1p_P0 at h
  split at h
  . rw [← z1p_e0]; exact h.out
  . exact h.elim)
theorem z1p_e1 (Kv : VW) (ρ : Rho) (x_2 y_3 t_4 : Addr) (g_6 : Int) (n_9 : Addr) (sign_10 : Bool) (w : World) : z1p_k1d x_2 y_3 t_4 g_6 n_9 sign_10 (Pw.kR Kv) w = goalAt Tryz.prog z1p_E 90 (z1p_O Kv) 1 (ρ) [(Value.pointer (some x_2)), (Value.pointer (some y_3)), (Value.pointer (some t_4)), (Value.int .u64 g_6), (Value.pointer (some n_9)), (Value.bool sign_10)] w := by kernel_rfl
theorem z1p_q1 (Kv : VW) (ρ : Rho) (vs : List Value) (w : World) : labAt (z1p_O Kv) 1 ρ vs w = z1p_P1 Kv ρ vs w := by kernel_rfl
theorem z1p_h1 (Kv : VW) : holdsAt Tryz.prog z1p_E 90 (z1p_O Kv) 1 := holdsAt_cut (.inl (by kernel_rfl)) (fun ρ vs w h => by
  rw [z1p_q1] at h
  unfold z1p_P1 at h
  split at h
  . rw [← z1p_e1]; exact h.out
  . exact h.elim)
theorem z1p_n (Kv : VW) : obAt (z1p_O Kv) 2 = none := by kernel_rfl
theorem z1p_h (Kv : VW) : ∀ k, holdsAt Tryz.prog z1p_E 90 (z1p_O Kv) k := fun k => match k with
  | 0 => z1p_h0 Kv
  | 1 => z1p_h1 Kv
  | _k + 2 => holdsAt_ge (z1p_n Kv) (Nat.le_add_left _ _)
theorem z1p_ok : Sound Tryz.prog 115 z1p_S := ⟨Tryz.call115, fun vs w Kv h => by
  unfold z1p_S at h
  split at h
  . have h := h.out
    rw [z1p_e] at h
    exact calls_sound (Γ := z1p_E) progMixed ⟨.inl z1e_ok, .inl z0o_ok, .inl z0p_ok, .inl z1t_ok, .inl z1z_ok, .inl z0l_ok, .inl z0k_ok, .inl z0h_ok, trivial⟩ Tryz.func115 (code := z1p_C) (by kernel_rfl) (z1p_A Kv) Kv (holds_all (z1p_h Kv)) (Nat.le_of_ble_eq_true (by kernel_rfl)) h
  . exact h.elim⟩
/-! ratio_Add -/
def z23_sd (a_0_0 a_0_1 : Int) (b_1_0 b_1_1 : Int) (K : Pw.T3) (w : World) : Prop :=
  let w1 := w.alloc (Obj.cells #[(Value.int .i64 a_0_0), (Value.int .i64 a_0_1)] 44)
  let w2 := w1.alloc (Obj.cells #[(Value.int .i64 b_1_0), (Value.int .i64 b_1_1)] 44)
  let w3 := w2.alloc (Obj.cells #[(Value.int .i64 0), (Value.int .i64 0)] 44)
  ∃ x4 : Int, w3.cell? (Addr.mk w.heap.size 0 none) = some (Value.int .i64 x4) /\ ∃ x5 : Int, w3.cell? (Addr.mk w.heap.size 1 none) = some (Value.int .i64 x5) /\ ∃ x6 : Int, w3.cell? (Addr.mk w1.heap.size 0 none) = some (Value.int .i64 x6) /\ ∃ x7 : Int, w3.cell? (Addr.mk w1.heap.size 1 none) = some (Value.int .i64 x7) /\ z0n_sh x4 x5 x6 x7 (Value.func (.func 115) #[] #[]) (fun r9_0 r9_1 r10 w8 => wrOk w8 (Addr.mk w2.heap.size 0 none) /\ 
  (let w11 := w8.setCell (Addr.mk w2.heap.size 0 none) (Value.int .i64 r9_0)
  wrOk w11 (Addr.mk w2.heap.size 1 none) /\ 
  (let w12 := w11.setCell (Addr.mk w2.heap.size 1 none) (Value.int .i64 r9_1)
  ∃ x13 : Int, w12.cell? (Addr.mk w2.heap.size 0 none) = some (Value.int .i64 x13) /\ ∃ x14 : Int, w12.cell? (Addr.mk w2.heap.size 1 none) = some (Value.int .i64 x14) /\ K x13 x14 r10 w12))) w3
structure z23_sh (a_0_0 a_0_1 : Int) (b_1_0 b_1_1 : Int) (K : Pw.T3) (w : World) : Prop where
  out : z23_sd a_0_0 a_0_1 b_1_0 b_1_1 K w
noncomputable def z23_S : Pw.Spec := fun vs w Kv =>
  match vs with
  | [.agg ⟨[.int .i64 a_0_0, .int .i64 a_0_1]⟩, .agg ⟨[.int .i64 b_1_0, .int .i64 b_1_1]⟩] => z23_sh a_0_0 a_0_1 b_1_0 b_1_1 (Pw.kR Kv) w
  | _ => False
noncomputable def z23_E : Pw.Env := [(113, z0n_S)]
noncomputable def z23_C : Code := (Tryz.f100.body).getD .skip
noncomputable def z23_A (_Kv : VW) : Pw.A :=
  (A.seq (A.reg (Pw.rn 4 RA.done))
   (A.seq (A.reg (Pw.rn 7 RA.done))
   A.leaf))
noncomputable def z23_O (Kv : VW) : List Ob := (obs Tryz.prog z23_E 11 (z23_A Kv) z23_C (fun _ => retQ Tryz.prog Tryz.f100.results Kv))
theorem z23_e (Kv : VW) (a_0_0 a_0_1 : Int) (b_1_0 b_1_1 : Int) (w : World) : z23_sd a_0_0 a_0_1 b_1_0 b_1_1 (Pw.kR Kv) w = W Tryz.prog z23_E 11 (z23_A Kv) z23_C [] (retQ Tryz.prog Tryz.f100.results Kv) [] (startS [(Value.agg #[(Value.int .i64 a_0_0), (Value.int .i64 a_0_1)]), (Value.agg #[(Value.int .i64 b_1_0), (Value.int .i64 b_1_1)])]) w := by kernel_rfl
theorem z23_n (Kv : VW) : obAt (z23_O Kv) 0 = none := by kernel_rfl
theorem z23_h (Kv : VW) : ∀ k, holdsAt Tryz.prog z23_E 11 (z23_O Kv) k := fun _ => holdsAt_ge (z23_n Kv) (Nat.zero_le _)
theorem z23_ok : Sound Tryz.prog 100 z23_S := ⟨Tryz.call100, fun vs w Kv h => by
  unfold z23_S at h
  split at h
  . have h := h.out
    rw [z23_e] at h
    exact calls_sound (Γ := z23_E) progMixed ⟨.inl z0n_ok, trivial⟩ Tryz.func100 (code := z23_C) (by kernel_rfl) (z23_A Kv) Kv (holds_all (z23_h Kv)) (Nat.le_of_ble_eq_true (by kernel_rfl)) h
  . exact h.elim⟩
/-! cmp_isNaN -/
def z27_sd (x_0 : Int) (K : Pw.T0) (w : World) : Prop :=
  K (x_0 != x_0) w
structure z27_sh (x_0 : Int) (K : Pw.T0) (w : World) : Prop where
  out : z27_sd x_0 K w
noncomputable def z27_S : Pw.Spec := fun vs w Kv =>
  match vs with
  | [.int .i64 x_0] => z27_sh x_0 (Pw.kB Kv) w
  | _ => False
noncomputable def z27_E : Pw.Env := []
noncomputable def z27_C : Code := (Tryz.f90.body).getD .skip
noncomputable def z27_A (_Kv : VW) : Pw.A :=
  (A.seq (A.reg (RA.run RA.done))
   (A.seq (A.reg (Pw.rn 4 RA.done))
   A.leaf))
noncomputable def z27_O (Kv : VW) : List Ob := (obs Tryz.prog z27_E 6 (z27_A Kv) z27_C (fun _ => retQ Tryz.prog Tryz.f90.results Kv))
theorem z27_e (Kv : VW) (x_0 : Int) (w : World) : z27_sd x_0 (Pw.kB Kv) w = W Tryz.prog z27_E 6 (z27_A Kv) z27_C [] (retQ Tryz.prog Tryz.f90.results Kv) [] (startS [(Value.int .i64 x_0)]) w := by kernel_rfl
theorem z27_n (Kv : VW) : obAt (z27_O Kv) 0 = none := by kernel_rfl
theorem z27_h (Kv : VW) : ∀ k, holdsAt Tryz.prog z27_E 6 (z27_O Kv) k := fun _ => holdsAt_ge (z27_n Kv) (Nat.zero_le _)
theorem z27_ok : Sound Tryz.prog 90 z27_S := ⟨Tryz.call90, fun vs w Kv h => by
  unfold z27_S at h
  split at h
  . have h := h.out
    rw [z27_e] at h
    exact calls_sound (Γ := z27_E) progMixed trivial Tryz.func90 (code := z27_C) (by kernel_rfl) (z27_A Kv) Kv (holds_all (z27_h Kv)) (Nat.le_of_ble_eq_true (by kernel_rfl)) h
  . exact h.elim⟩
/-! cmp_Compare -/
def z0w_sd (x_0 y_1 : Int) (K : Pw.T1) (w : World) : Prop :=
  z27_sh x_0 (fun r2 w1 => z27_sh y_1 (fun r4 w3 => cnd r2
    (cnd r4
    (K (0 : Int) w3)
    (K (-1 : Int) w3))
    (cnd r4
    (K (1 : Int) w3)
    (cnd (decide (x_0 < y_1))
    (K (-1 : Int) w3)
    (cnd (decide (x_0 > y_1))
    (K (1 : Int) w3)
    (K (0 : Int) w3))))) w1) w
structure z0w_sh (x_0 y_1 : Int) (K : Pw.T1) (w : World) : Prop where
  out : z0w_sd x_0 y_1 K w
noncomputable def z0w_S : Pw.Spec := fun vs w Kv =>
  match vs with
  | [.int .i64 x_0, .int .i64 y_1] => z0w_sh x_0 y_1 (Pw.kI Kv) w
  | _ => False
noncomputable def z0w_E : Pw.Env := [(90, z27_S)]
noncomputable def z0w_C : Code := (Tryz.f68.body).getD .skip
noncomputable def z0w_A (_Kv : VW) : Pw.A :=
  (A.seq (A.reg (RA.run RA.done))
   (A.seq (A.reg (Pw.rn 3 RA.done))
   (A.seq (A.reg (Pw.rn 3 RA.done))
   (A.seq (A.seq (A.reg (RA.run RA.done))
   (A.cond (A.seq (A.seq (A.reg (RA.run RA.done))
   (A.cond (A.seq (A.reg (RA.run RA.done))
   A.leaf)
   A.leaf))
   (A.seq (A.reg (RA.run RA.done))
   A.leaf))
   A.leaf))
   (A.seq (A.seq (A.reg (RA.run RA.done))
   (A.cond (A.seq (A.reg (RA.run RA.done))
   A.leaf)
   A.leaf))
   (A.seq (A.seq (A.reg (Pw.rn 3 RA.done))
   (A.cond (A.seq (A.reg (RA.run RA.done))
   A.leaf)
   A.leaf))
   (A.seq (A.seq (A.reg (Pw.rn 3 RA.done))
   (A.cond (A.seq (A.reg (RA.run RA.done))
   A.leaf)
   A.leaf))
   (A.seq (A.reg (RA.run RA.done))
   A.leaf))))))))
noncomputable def z0w_O (Kv : VW) : List Ob := (obs Tryz.prog z0w_E 20 (z0w_A Kv) z0w_C (fun _ => retQ Tryz.prog Tryz.f68.results Kv))
theorem z0w_e (Kv : VW) (x_0 y_1 : Int) (w : World) : z0w_sd x_0 y_1 (Pw.kI Kv) w = W Tryz.prog z0w_E 20 (z0w_A Kv) z0w_C [] (retQ Tryz.prog Tryz.f68.results Kv) [] (startS [(Value.int .i64 x_0), (Value.int .i64 y_1)]) w := by kernel_rfl
theorem z0w_n (Kv : VW) : obAt (z0w_O Kv) 0 = none := by kernel_rfl
theorem z0w_h (Kv : VW) : ∀ k, holdsAt Tryz.prog z0w_E 20 (z0w_O Kv) k := fun _ => holdsAt_ge (z0w_n Kv) (Nat.zero_le _)
theorem z0w_ok : Sound Tryz.prog 68 z0w_S := ⟨Tryz.call68, fun vs w Kv h => by
  unfold z0w_S at h
  split at h
  . have h := h.out
    rw [z0w_e] at h
    exact calls_sound (Γ := z0w_E) progMixed ⟨.inl z27_ok, trivial⟩ Tryz.func68 (code := z0w_C) (by kernel_rfl) (z0w_A Kv) Kv (holds_all (z0w_h Kv)) (Nat.le_of_ble_eq_true (by kernel_rfl)) h
  . exact h.elim⟩
/-! ratio_Cmp -/
def z21_k0d (a_2 b_3 : Addr) (x_5 y_6 : Addr) (K : Pw.T1) (w : World) : Prop :=
  ∃ x137 : Bool, w.cell? x_5 = some (Value.bool x137) /\ ∃ x138 : Bool, w.cell? y_6 = some (Value.bool x138) /\ cnd (!(x137 == x138))
    (∃ x139 : Int, w.cell? a_2 = some (Value.int .i64 x139) /\ ∃ x140 : Int, w.cell? b_3 = some (Value.int .i64 x140) /\ z0w_sh x139 x140 (fun r142 w141 => K r142 w141) w)
    (let w143 := w.drew
  ∃ S144 : World -> Prop, S144 w143 /\ ∃ x145 : Int, (∀ w' : World, S144 w' -> w'.cell? (x_5.add 1) = some (Value.int .u64 x145)) /\ ∃ x146 : Int, (∀ w' : World, S144 w' -> w'.cell? (y_6.add 2) = some (Value.int .u64 x146)) /\ ∃ x147 : Int, (∀ w' : World, S144 w' -> w'.cell? (y_6.add 1) = some (Value.int .u64 x147)) /\ ∃ x148 : Int, (∀ w' : World, S144 w' -> w'.cell? (x_5.add 2) = some (Value.int .u64 x148)) /\ z0p_sh x145 x146 (fun r150_0 r150_1 w149 => S144 w149 /\ z0p_sh x147 x148 (fun r152_0 r152_1 w151 => S144 w151 /\ z0o_sh r150_0 r150_1 r152_0 r152_1 (fun r154 w153 => S144 w153 /\ ∃ x155 : Bool, w153.cell? x_5 = some (Value.bool x155) /\ cnd x155
    (inR .i64 (-r154) /\ K (-r154) w153)
    (K r154 w153)) w151) w149) w143)
structure z21_k0 (a_2 b_3 : Addr) (x_5 y_6 : Addr) (K : Pw.T1) (w : World) : Prop where
  out : z21_k0d a_2 b_3 x_5 y_6 K w
def z21_sd (a_0_0 a_0_1 : Int) (b_1_0 b_1_1 : Int) (K : Pw.T1) (w : World) : Prop :=
  let w1 := w.alloc (Obj.cells #[(Value.int .i64 a_0_0), (Value.int .i64 a_0_1)] 44)
  let w2 := w1.alloc (Obj.cells #[(Value.int .i64 b_1_0), (Value.int .i64 b_1_1)] 44)
  ∃ x3 : Int, w2.cell? (Addr.mk w.heap.size 0 none) = some (Value.int .i64 x3) /\ ∃ x4 : Int, w2.cell? (Addr.mk w.heap.size 1 none) = some (Value.int .i64 x4) /\ ∃ x5 : Int, w2.cell? (Addr.mk w1.heap.size 0 none) = some (Value.int .i64 x5) /\ ∃ x6 : Int, w2.cell? (Addr.mk w1.heap.size 1 none) = some (Value.int .i64 x6) /\ z1d_sh x3 x4 x5 x6 (fun r8 w7 => cnd (!r8)
    (K (0 : Int) w7)
    (let w9 := w7.drew
  ∃ S10 : World -> Prop, S10 w9 /\ ∃ x11 : Int, (∀ w' : World, S10 w' -> w'.cell? (Addr.mk w.heap.size 0 none) = some (Value.int .i64 x11)) /\ ∃ x12 : Int, (∀ w' : World, S10 w' -> w'.cell? (Addr.mk w.heap.size 1 none) = some (Value.int .i64 x12)) /\ ∃ x13 : Int, (∀ w' : World, S10 w' -> w'.cell? (Addr.mk w1.heap.size 0 none) = some (Value.int .i64 x13)) /\ ∃ x14 : Int, (∀ w' : World, S10 w' -> w'.cell? (Addr.mk w1.heap.size 1 none) = some (Value.int .i64 x14)) /\ (z29_sh x11 x12 (fun r16_0 r16_1 r16_2 w15 => S10 w15 /\ (z29_sh x13 x14 (fun r18_0 r18_1 r18_2 w17 => S10 w17 /\ (let w19 := w17.alloc (Obj.cells #[(Value.bool false), (Value.int .u64 0), (Value.int .u64 0)] 137)
  S10 w19 /\ let w20 := w19.alloc (Obj.cells #[(Value.bool false), (Value.int .u64 0), (Value.int .u64 0)] 137)
  S10 w20 /\ wrOk w20 (Addr.mk w17.heap.size 0 none) /\ 
  (let w21 := w20.setCell (Addr.mk w17.heap.size 0 none) (Value.bool r16_0)
  wrOk w21 (Addr.mk w17.heap.size 1 none) /\ 
  (let w22 := w21.setCell (Addr.mk w17.heap.size 1 none) (Value.int .u64 r16_1)
  wrOk w22 (Addr.mk w17.heap.size 2 none) /\ 
  (let w23 := w22.setCell (Addr.mk w17.heap.size 2 none) (Value.int .u64 r16_2)
  S10 w23 /\ wrOk w23 (Addr.mk w19.heap.size 0 none) /\ 
  (let w24 := w23.setCell (Addr.mk w19.heap.size 0 none) (Value.bool r18_0)
  wrOk w24 (Addr.mk w19.heap.size 1 none) /\ 
  (let w25 := w24.setCell (Addr.mk w19.heap.size 1 none) (Value.int .u64 r18_1)
  wrOk w25 (Addr.mk w19.heap.size 2 none) /\ 
  (let w26 := w25.setCell (Addr.mk w19.heap.size 2 none) (Value.int .u64 r18_2)
  z21_k0 (Addr.mk w.heap.size 0 none) (Addr.mk w1.heap.size 0 none) (Addr.mk w17.heap.size 0 none) (Addr.mk w19.heap.size 0 none) K w26)))))))
    /\ (let w27 := w17.alloc (Obj.cells #[(Value.bool false), (Value.int .u64 0), (Value.int .u64 0)] 137)
  S10 w27 /\ let w28 := w27.alloc (Obj.cells #[(Value.bool false), (Value.int .u64 0), (Value.int .u64 0)] 137)
  S10 w28 /\ wrOk w28 (Addr.mk w27.heap.size 0 none) /\ 
  (let w29 := w28.setCell (Addr.mk w27.heap.size 0 none) (Value.bool r16_0)
  wrOk w29 (Addr.mk w27.heap.size 1 none) /\ 
  (let w30 := w29.setCell (Addr.mk w27.heap.size 1 none) (Value.int .u64 r16_1)
  wrOk w30 (Addr.mk w27.heap.size 2 none) /\ 
  (let w31 := w30.setCell (Addr.mk w27.heap.size 2 none) (Value.int .u64 r16_2)
  S10 w31 /\ wrOk w31 (Addr.mk w17.heap.size 0 none) /\ 
  (let w32 := w31.setCell (Addr.mk w17.heap.size 0 none) (Value.bool r18_0)
  wrOk w32 (Addr.mk w17.heap.size 1 none) /\ 
  (let w33 := w32.setCell (Addr.mk w17.heap.size 1 none) (Value.int .u64 r18_1)
  wrOk w33 (Addr.mk w17.heap.size 2 none) /\ 
  (let w34 := w33.setCell (Addr.mk w17.heap.size 2 none) (Value.int .u64 r18_2)
  z21_k0 (Addr.mk w.heap.size 0 none) (Addr.mk w1.heap.size 0 none) (Addr.mk w27.heap.size 0 none) (Addr.mk w17.heap.size 0 none) K w34)))))))) w15)
    /\ (let w35 := w15.alloc (Obj.cells #[(Value.bool false), (Value.int .u64 0), (Value.int .u64 0)] 137)
  S10 w35 /\ (z29_sh x13 x14 (fun r37_0 r37_1 r37_2 w36 => S10 w36 /\ let w38 := w36.alloc (Obj.cells #[(Value.bool false), (Value.int .u64 0), (Value.int .u64 0)] 137)
  S10 w38 /\ wrOk w38 (Addr.mk w15.heap.size 0 none) /\ 
  (let w39 := w38.setCell (Addr.mk w15.heap.size 0 none) (Value.bool r16_0)
  wrOk w39 (Addr.mk w15.heap.size 1 none) /\ 
  (let w40 := w39.setCell (Addr.mk w15.heap.size 1 none) (Value.int .u64 r16_1)
  wrOk w40 (Addr.mk w15.heap.size 2 none) /\ 
  (let w41 := w40.setCell (Addr.mk w15.heap.size 2 none) (Value.int .u64 r16_2)
  S10 w41 /\ wrOk w41 (Addr.mk w36.heap.size 0 none) /\ 
  (let w42 := w41.setCell (Addr.mk w36.heap.size 0 none) (Value.bool r37_0)
  wrOk w42 (Addr.mk w36.heap.size 1 none) /\ 
  (let w43 := w42.setCell (Addr.mk w36.heap.size 1 none) (Value.int .u64 r37_1)
  wrOk w43 (Addr.mk w36.heap.size 2 none) /\ 
  (let w44 := w43.setCell (Addr.mk w36.heap.size 2 none) (Value.int .u64 r37_2)
  z21_k0 (Addr.mk w.heap.size 0 none) (Addr.mk w1.heap.size 0 none) (Addr.mk w15.heap.size 0 none) (Addr.mk w36.heap.size 0 none) K w44))))))) w35)
    /\ (let w45 := w35.alloc (Obj.cells #[(Value.bool false), (Value.int .u64 0), (Value.int .u64 0)] 137)
  S10 w45 /\ z29_sh x13 x14 (fun r47_0 r47_1 r47_2 w46 => S10 w46 /\ wrOk w46 (Addr.mk w15.heap.size 0 none) /\ 
  (let w48 := w46.setCell (Addr.mk w15.heap.size 0 none) (Value.bool r16_0)
  wrOk w48 (Addr.mk w15.heap.size 1 none) /\ 
  (let w49 := w48.setCell (Addr.mk w15.heap.size 1 none) (Value.int .u64 r16_1)
  wrOk w49 (Addr.mk w15.heap.size 2 none) /\ 
  (let w50 := w49.setCell (Addr.mk w15.heap.size 2 none) (Value.int .u64 r16_2)
  S10 w50 /\ wrOk w50 (Addr.mk w35.heap.size 0 none) /\ 
  (let w51 := w50.setCell (Addr.mk w35.heap.size 0 none) (Value.bool r47_0)
  wrOk w51 (Addr.mk w35.heap.size 1 none) /\ 
  (let w52 := w51.setCell (Addr.mk w35.heap.size 1 none) (Value.int .u64 r47_1)
  wrOk w52 (Addr.mk w35.heap.size 2 none) /\ 
  (let w53 := w52.setCell (Addr.mk w35.heap.size 2 none) (Value.int .u64 r47_2)
  z21_k0 (Addr.mk w.heap.size 0 none) (Addr.mk w1.heap.size 0 none) (Addr.mk w15.heap.size 0 none) (Addr.mk w35.heap.size 0 none) K w53))))))) w45))
    /\ (let w54 := w15.alloc (Obj.cells #[(Value.bool false), (Value.int .u64 0), (Value.int .u64 0)] 137)
  S10 w54 /\ (z29_sh x13 x14 (fun r56_0 r56_1 r56_2 w55 => S10 w55 /\ let w57 := w55.alloc (Obj.cells #[(Value.bool false), (Value.int .u64 0), (Value.int .u64 0)] 137)
  S10 w57 /\ wrOk w57 (Addr.mk w55.heap.size 0 none) /\ 
  (let w58 := w57.setCell (Addr.mk w55.heap.size 0 none) (Value.bool r16_0)
  wrOk w58 (Addr.mk w55.heap.size 1 none) /\ 
  (let w59 := w58.setCell (Addr.mk w55.heap.size 1 none) (Value.int .u64 r16_1)
  wrOk w59 (Addr.mk w55.heap.size 2 none) /\ 
  (let w60 := w59.setCell (Addr.mk w55.heap.size 2 none) (Value.int .u64 r16_2)
  S10 w60 /\ wrOk w60 (Addr.mk w15.heap.size 0 none) /\ 
  (let w61 := w60.setCell (Addr.mk w15.heap.size 0 none) (Value.bool r56_0)
  wrOk w61 (Addr.mk w15.heap.size 1 none) /\ 
  (let w62 := w61.setCell (Addr.mk w15.heap.size 1 none) (Value.int .u64 r56_1)
  wrOk w62 (Addr.mk w15.heap.size 2 none) /\ 
  (let w63 := w62.setCell (Addr.mk w15.heap.size 2 none) (Value.int .u64 r56_2)
  z21_k0 (Addr.mk w.heap.size 0 none) (Addr.mk w1.heap.size 0 none) (Addr.mk w55.heap.size 0 none) (Addr.mk w15.heap.size 0 none) K w63))))))) w54)
    /\ (let w64 := w54.alloc (Obj.cells #[(Value.bool false), (Value.int .u64 0), (Value.int .u64 0)] 137)
  S10 w64 /\ z29_sh x13 x14 (fun r66_0 r66_1 r66_2 w65 => S10 w65 /\ wrOk w65 (Addr.mk w54.heap.size 0 none) /\ 
  (let w67 := w65.setCell (Addr.mk w54.heap.size 0 none) (Value.bool r16_0)
  wrOk w67 (Addr.mk w54.heap.size 1 none) /\ 
  (let w68 := w67.setCell (Addr.mk w54.heap.size 1 none) (Value.int .u64 r16_1)
  wrOk w68 (Addr.mk w54.heap.size 2 none) /\ 
  (let w69 := w68.setCell (Addr.mk w54.heap.size 2 none) (Value.int .u64 r16_2)
  S10 w69 /\ wrOk w69 (Addr.mk w15.heap.size 0 none) /\ 
  (let w70 := w69.setCell (Addr.mk w15.heap.size 0 none) (Value.bool r66_0)
  wrOk w70 (Addr.mk w15.heap.size 1 none) /\ 
  (let w71 := w70.setCell (Addr.mk w15.heap.size 1 none) (Value.int .u64 r66_1)
  wrOk w71 (Addr.mk w15.heap.size 2 none) /\ 
  (let w72 := w71.setCell (Addr.mk w15.heap.size 2 none) (Value.int .u64 r66_2)
  z21_k0 (Addr.mk w.heap.size 0 none) (Addr.mk w1.heap.size 0 none) (Addr.mk w54.heap.size 0 none) (Addr.mk w15.heap.size 0 none) K w72))))))) w64))) w9)
    /\ (let w73 := w9.alloc (Obj.cells #[(Value.bool false), (Value.int .u64 0), (Value.int .u64 0)] 137)
  S10 w73 /\ (z29_sh x11 x12 (fun r75_0 r75_1 r75_2 w74 => S10 w74 /\ (z29_sh x13 x14 (fun r77_0 r77_1 r77_2 w76 => S10 w76 /\ let w78 := w76.alloc (Obj.cells #[(Value.bool false), (Value.int .u64 0), (Value.int .u64 0)] 137)
  S10 w78 /\ wrOk w78 (Addr.mk w9.heap.size 0 none) /\ 
  (let w79 := w78.setCell (Addr.mk w9.heap.size 0 none) (Value.bool r75_0)
  wrOk w79 (Addr.mk w9.heap.size 1 none) /\ 
  (let w80 := w79.setCell (Addr.mk w9.heap.size 1 none) (Value.int .u64 r75_1)
  wrOk w80 (Addr.mk w9.heap.size 2 none) /\ 
  (let w81 := w80.setCell (Addr.mk w9.heap.size 2 none) (Value.int .u64 r75_2)
  S10 w81 /\ wrOk w81 (Addr.mk w76.heap.size 0 none) /\ 
  (let w82 := w81.setCell (Addr.mk w76.heap.size 0 none) (Value.bool r77_0)
  wrOk w82 (Addr.mk w76.heap.size 1 none) /\ 
  (let w83 := w82.setCell (Addr.mk w76.heap.size 1 none) (Value.int .u64 r77_1)
  wrOk w83 (Addr.mk w76.heap.size 2 none) /\ 
  (let w84 := w83.setCell (Addr.mk w76.heap.size 2 none) (Value.int .u64 r77_2)
  z21_k0 (Addr.mk w.heap.size 0 none) (Addr.mk w1.heap.size 0 none) (Addr.mk w9.heap.size 0 none) (Addr.mk w76.heap.size 0 none) K w84))))))) w74)
    /\ (let w85 := w74.alloc (Obj.cells #[(Value.bool false), (Value.int .u64 0), (Value.int .u64 0)] 137)
  S10 w85 /\ z29_sh x13 x14 (fun r87_0 r87_1 r87_2 w86 => S10 w86 /\ wrOk w86 (Addr.mk w9.heap.size 0 none) /\ 
  (let w88 := w86.setCell (Addr.mk w9.heap.size 0 none) (Value.bool r75_0)
  wrOk w88 (Addr.mk w9.heap.size 1 none) /\ 
  (let w89 := w88.setCell (Addr.mk w9.heap.size 1 none) (Value.int .u64 r75_1)
  wrOk w89 (Addr.mk w9.heap.size 2 none) /\ 
  (let w90 := w89.setCell (Addr.mk w9.heap.size 2 none) (Value.int .u64 r75_2)
  S10 w90 /\ wrOk w90 (Addr.mk w74.heap.size 0 none) /\ 
  (let w91 := w90.setCell (Addr.mk w74.heap.size 0 none) (Value.bool r87_0)
  wrOk w91 (Addr.mk w74.heap.size 1 none) /\ 
  (let w92 := w91.setCell (Addr.mk w74.heap.size 1 none) (Value.int .u64 r87_1)
  wrOk w92 (Addr.mk w74.heap.size 2 none) /\ 
  (let w93 := w92.setCell (Addr.mk w74.heap.size 2 none) (Value.int .u64 r87_2)
  z21_k0 (Addr.mk w.heap.size 0 none) (Addr.mk w1.heap.size 0 none) (Addr.mk w9.heap.size 0 none) (Addr.mk w74.heap.size 0 none) K w93))))))) w85)) w73)
    /\ (let w94 := w73.alloc (Obj.cells #[(Value.bool false), (Value.int .u64 0), (Value.int .u64 0)] 137)
  S10 w94 /\ z29_sh x11 x12 (fun r96_0 r96_1 r96_2 w95 => S10 w95 /\ z29_sh x13 x14 (fun r98_0 r98_1 r98_2 w97 => S10 w97 /\ wrOk w97 (Addr.mk w9.heap.size 0 none) /\ 
  (let w99 := w97.setCell (Addr.mk w9.heap.size 0 none) (Value.bool r96_0)
  wrOk w99 (Addr.mk w9.heap.size 1 none) /\ 
  (let w100 := w99.setCell (Addr.mk w9.heap.size 1 none) (Value.int .u64 r96_1)
  wrOk w100 (Addr.mk w9.heap.size 2 none) /\ 
  (let w101 := w100.setCell (Addr.mk w9.heap.size 2 none) (Value.int .u64 r96_2)
  S10 w101 /\ wrOk w101 (Addr.mk w73.heap.size 0 none) /\ 
  (let w102 := w101.setCell (Addr.mk w73.heap.size 0 none) (Value.bool r98_0)
  wrOk w102 (Addr.mk w73.heap.size 1 none) /\ 
  (let w103 := w102.setCell (Addr.mk w73.heap.size 1 none) (Value.int .u64 r98_1)
  wrOk w103 (Addr.mk w73.heap.size 2 none) /\ 
  (let w104 := w103.setCell (Addr.mk w73.heap.size 2 none) (Value.int .u64 r98_2)
  z21_k0 (Addr.mk w.heap.size 0 none) (Addr.mk w1.heap.size 0 none) (Addr.mk w9.heap.size 0 none) (Addr.mk w73.heap.size 0 none) K w104))))))) w95) w94))
    /\ (let w105 := w9.alloc (Obj.cells #[(Value.bool false), (Value.int .u64 0), (Value.int .u64 0)] 137)
  S10 w105 /\ (z29_sh x11 x12 (fun r107_0 r107_1 r107_2 w106 => S10 w106 /\ (z29_sh x13 x14 (fun r109_0 r109_1 r109_2 w108 => S10 w108 /\ let w110 := w108.alloc (Obj.cells #[(Value.bool false), (Value.int .u64 0), (Value.int .u64 0)] 137)
  S10 w110 /\ wrOk w110 (Addr.mk w108.heap.size 0 none) /\ 
  (let w111 := w110.setCell (Addr.mk w108.heap.size 0 none) (Value.bool r107_0)
  wrOk w111 (Addr.mk w108.heap.size 1 none) /\ 
  (let w112 := w111.setCell (Addr.mk w108.heap.size 1 none) (Value.int .u64 r107_1)
  wrOk w112 (Addr.mk w108.heap.size 2 none) /\ 
  (let w113 := w112.setCell (Addr.mk w108.heap.size 2 none) (Value.int .u64 r107_2)
  S10 w113 /\ wrOk w113 (Addr.mk w9.heap.size 0 none) /\ 
  (let w114 := w113.setCell (Addr.mk w9.heap.size 0 none) (Value.bool r109_0)
  wrOk w114 (Addr.mk w9.heap.size 1 none) /\ 
  (let w115 := w114.setCell (Addr.mk w9.heap.size 1 none) (Value.int .u64 r109_1)
  wrOk w115 (Addr.mk w9.heap.size 2 none) /\ 
  (let w116 := w115.setCell (Addr.mk w9.heap.size 2 none) (Value.int .u64 r109_2)
  z21_k0 (Addr.mk w.heap.size 0 none) (Addr.mk w1.heap.size 0 none) (Addr.mk w108.heap.size 0 none) (Addr.mk w9.heap.size 0 none) K w116))))))) w106)
    /\ (let w117 := w106.alloc (Obj.cells #[(Value.bool false), (Value.int .u64 0), (Value.int .u64 0)] 137)
  S10 w117 /\ z29_sh x13 x14 (fun r119_0 r119_1 r119_2 w118 => S10 w118 /\ wrOk w118 (Addr.mk w106.heap.size 0 none) /\ 
  (let w120 := w118.setCell (Addr.mk w106.heap.size 0 none) (Value.bool r107_0)
  wrOk w120 (Addr.mk w106.heap.size 1 none) /\ 
  (let w121 := w120.setCell (Addr.mk w106.heap.size 1 none) (Value.int .u64 r107_1)
  wrOk w121 (Addr.mk w106.heap.size 2 none) /\ 
  (let w122 := w121.setCell (Addr.mk w106.heap.size 2 none) (Value.int .u64 r107_2)
  S10 w122 /\ wrOk w122 (Addr.mk w9.heap.size 0 none) /\ 
  (let w123 := w122.setCell (Addr.mk w9.heap.size 0 none) (Value.bool r119_0)
  wrOk w123 (Addr.mk w9.heap.size 1 none) /\ 
  (let w124 := w123.setCell (Addr.mk w9.heap.size 1 none) (Value.int .u64 r119_1)
  wrOk w124 (Addr.mk w9.heap.size 2 none) /\ 
  (let w125 := w124.setCell (Addr.mk w9.heap.size 2 none) (Value.int .u64 r119_2)
  z21_k0 (Addr.mk w.heap.size 0 none) (Addr.mk w1.heap.size 0 none) (Addr.mk w106.heap.size 0 none) (Addr.mk w9.heap.size 0 none) K w125))))))) w117)) w105)
    /\ (let w126 := w105.alloc (Obj.cells #[(Value.bool false), (Value.int .u64 0), (Value.int .u64 0)] 137)
  S10 w126 /\ z29_sh x11 x12 (fun r128_0 r128_1 r128_2 w127 => S10 w127 /\ z29_sh x13 x14 (fun r130_0 r130_1 r130_2 w129 => S10 w129 /\ wrOk w129 (Addr.mk w105.heap.size 0 none) /\ 
  (let w131 := w129.setCell (Addr.mk w105.heap.size 0 none) (Value.bool r128_0)
  wrOk w131 (Addr.mk w105.heap.size 1 none) /\ 
  (let w132 := w131.setCell (Addr.mk w105.heap.size 1 none) (Value.int .u64 r128_1)
  wrOk w132 (Addr.mk w105.heap.size 2 none) /\ 
  (let w133 := w132.setCell (Addr.mk w105.heap.size 2 none) (Value.int .u64 r128_2)
  S10 w133 /\ wrOk w133 (Addr.mk w9.heap.size 0 none) /\ 
  (let w134 := w133.setCell (Addr.mk w9.heap.size 0 none) (Value.bool r130_0)
  wrOk w134 (Addr.mk w9.heap.size 1 none) /\ 
  (let w135 := w134.setCell (Addr.mk w9.heap.size 1 none) (Value.int .u64 r130_1)
  wrOk w135 (Addr.mk w9.heap.size 2 none) /\ 
  (let w136 := w135.setCell (Addr.mk w9.heap.size 2 none) (Value.int .u64 r130_2)
  z21_k0 (Addr.mk w.heap.size 0 none) (Addr.mk w1.heap.size 0 none) (Addr.mk w105.heap.size 0 none) (Addr.mk w9.heap.size 0 none) K w136))))))) w127) w126)))) w2
structure z21_sh (a_0_0 a_0_1 : Int) (b_1_0 b_1_1 : Int) (K : Pw.T1) (w : World) : Prop where
  out : z21_sd a_0_0 a_0_1 b_1_0 b_1_1 K w
def z21_P0 (Kv : VW) (ρ : Rho) (vs : List Value) (w : World) : Prop :=
  match ρ, vs with
  | _, [.pointer (some a_2), .pointer (some b_3), .pointer (some x_5), .pointer (some y_6)] => z21_k0 a_2 b_3 x_5 y_6 (Pw.kI Kv) w
  | _, _ => False
noncomputable def z21_S : Pw.Spec := fun vs w Kv =>
  match vs with
  | [.agg ⟨[.int .i64 a_0_0, .int .i64 a_0_1]⟩, .agg ⟨[.int .i64 b_1_0, .int .i64 b_1_1]⟩] => z21_sh a_0_0 a_0_1 b_1_0 b_1_1 (Pw.kI Kv) w
  | _ => False
noncomputable def z21_E : Pw.Env := [(68, z0w_S), (116, z1d_S), (117, z29_S), (118, z0o_S), (119, z0p_S)]
noncomputable def z21_C : Code := (Tryz.f101.body).getD .skip
noncomputable def z21_A (Kv : VW) : Pw.A :=
  (A.seq (A.reg (Pw.rn 3 RA.done))
   (A.seq (A.seq (A.reg (Pw.rn 4 RA.done))
   (A.cond (A.seq (A.reg (RA.run RA.done))
   A.leaf)
   A.leaf))
   (A.seq (A.drw (DA.pur 0 (DA.pur 2 (DA.thr 1 (DA.thr 3 (DA.two 4 (DA.eff 5 (DA.eff 6 (DA.eff 7 DA.done))) 5 (DA.eff 4 (DA.eff 6 (DA.eff 7 DA.done)))) 4 (DA.two 3 (DA.eff 5 (DA.eff 6 (DA.eff 7 DA.done))) 5 (DA.eff 3 (DA.eff 6 (DA.eff 7 DA.done)))) 5 (DA.two 3 (DA.eff 4 (DA.eff 6 (DA.eff 7 DA.done))) 4 (DA.eff 3 (DA.eff 6 (DA.eff 7 DA.done))))) 4 (DA.two 1 (DA.two 3 (DA.eff 5 (DA.eff 6 (DA.eff 7 DA.done))) 5 (DA.eff 3 (DA.eff 6 (DA.eff 7 DA.done)))) 5 (DA.eff 1 (DA.eff 3 (DA.eff 6 (DA.eff 7 DA.done))))) 5 (DA.two 1 (DA.two 3 (DA.eff 4 (DA.eff 6 (DA.eff 7 DA.done))) 4 (DA.eff 3 (DA.eff 6 (DA.eff 7 DA.done)))) 4 (DA.eff 1 (DA.eff 3 (DA.eff 6 (DA.eff 7 DA.done)))))))))
   (A.cut [2, 3, 5, 6] (z21_P0 Kv) (A.seq (A.seq (A.reg (Pw.rn 5 RA.done))
   (A.cond (A.seq (A.reg (Pw.rn 6 RA.done))
   A.leaf)
   A.leaf))
   (A.seq (A.drw (DA.pur 0 (DA.pur 1 (DA.pur 2 (DA.pur 3 (DA.pur 5 (DA.pur 6 (DA.pur 7 (DA.pur 8 (DA.eff 4 (DA.eff 9 (DA.eff 10 (DA.pur 11 DA.done)))))))))))))
   (A.seq (A.seq (A.reg (Pw.rn 2 RA.done))
   (A.cond (A.seq (A.reg (Pw.rn 3 RA.done))
   A.leaf)
   A.leaf))
   (A.seq (A.reg (Pw.rn 2 RA.done))
   A.leaf))))))))
noncomputable def z21_O (Kv : VW) : List Ob := (obs Tryz.prog z21_E 42 (z21_A Kv) z21_C (fun _ => retQ Tryz.prog Tryz.f101.results Kv))
theorem z21_e (Kv : VW) (a_0_0 a_0_1 : Int) (b_1_0 b_1_1 : Int) (w : World) : z21_sd a_0_0 a_0_1 b_1_0 b_1_1 (Pw.kI Kv) w = W Tryz.prog z21_E 42 (z21_A Kv) z21_C [] (retQ Tryz.prog Tryz.f101.results Kv) [] (startS [(Value.agg #[(Value.int .i64 a_0_0), (Value.int .i64 a_0_1)]), (Value.agg #[(Value.int .i64 b_1_0), (Value.int .i64 b_1_1)])]) w := by kernel_rfl
theorem z21_e0 (Kv : VW) (ρ : Rho) (a_2 b_3 : Addr) (x_5 y_6 : Addr) (w : World) : z21_k0d a_2 b_3 x_5 y_6 (Pw.kI Kv) w = goalAt Tryz.prog z21_E 42 (z21_O Kv) 0 (ρ) [(Value.pointer (some a_2)), (Value.pointer (some b_3)), (Value.pointer (some x_5)), (Value.pointer (some y_6))] w := by kernel_rfl
theorem z21_q0 (Kv : VW) (ρ : Rho) (vs : List Value) (w : World) : labAt (z21_O Kv) 0 ρ vs w = z21_P0 Kv ρ vs w := by kernel_rfl
theorem z21_h0 (Kv : VW) : holdsAt Tryz.prog z21_E 42 (z21_O Kv) 0 := holdsAt_cut (.inl (by kernel_rfl)) (fun ρ vs w h => by
  rw [z21_q0] at h
  unfold z21_P0 at h
  split at h
  . rw [← z21_e0]; exact h.out
  . exact h.elim)
theorem z21_n (Kv : VW) : obAt (z21_O Kv) 1 = none := by kernel_rfl
theorem z21_h (Kv : VW) : ∀ k, holdsAt Tryz.prog z21_E 42 (z21_O Kv) k := fun k => match k with
  | 0 => z21_h0 Kv
  | _k + 1 => holdsAt_ge (z21_n Kv) (Nat.le_add_left _ _)
theorem z21_ok : Sound Tryz.prog 101 z21_S := ⟨Tryz.call101, fun vs w Kv h => by
  unfold z21_S at h
  split at h
  . have h := h.out
    rw [z21_e] at h
    exact calls_sound (Γ := z21_E) progMixed ⟨.inl z0w_ok, .inl z1d_ok, .inl z29_ok, .inl z0o_ok, .inl z0p_ok, trivial⟩ Tryz.func101 (code := z21_C) (by kernel_rfl) (z21_A Kv) Kv (holds_all (z21_h Kv)) (Nat.le_of_ble_eq_true (by kernel_rfl)) h
  . exact h.elim⟩
/-! ratio_Floor -/
def z14_sd (a_0_0 a_0_1 : Int) (K : Pw.T1) (w : World) : Prop :=
  let w1 := w.alloc (Obj.cells #[(Value.int .i64 a_0_0), (Value.int .i64 a_0_1)] 44)
  ∃ x2 : Int, w1.cell? (Addr.mk w.heap.size 0 none) = some (Value.int .i64 x2) /\ ∃ x3 : Int, w1.cell? (Addr.mk w.heap.size 1 none) = some (Value.int .i64 x3) /\ z0y_sh x2 x3 (fun r5 w4 => cnd (!r5)
    (K (0 : Int) w4)
    (∃ x6 : Int, w4.cell? (Addr.mk w.heap.size 0 none) = some (Value.int .i64 x6) /\ ∃ x7 : Int, w4.cell? (Addr.mk w.heap.size 1 none) = some (Value.int .i64 x7) /\ x7 ≠ 0 /\ inR .i64 (Int.tdiv x6 x7) /\ ∃ x8 : Int, w4.cell? (Addr.mk w.heap.size 0 none) = some (Value.int .i64 x8) /\ ∃ x9 : Int, w4.cell? (Addr.mk w.heap.size 1 none) = some (Value.int .i64 x9) /\ x9 ≠ 0 /\ cnd (decide ((Int.tmod x8 x9) < (0 : Int)))
    (inR .i64 ((Int.tdiv x6 x7) - (1 : Int)) /\ K ((Int.tdiv x6 x7) - (1 : Int)) w4)
    (K (Int.tdiv x6 x7) w4))) w1
structure z14_sh (a_0_0 a_0_1 : Int) (K : Pw.T1) (w : World) : Prop where
  out : z14_sd a_0_0 a_0_1 K w
noncomputable def z14_S : Pw.Spec := fun vs w Kv =>
  match vs with
  | [.agg ⟨[.int .i64 a_0_0, .int .i64 a_0_1]⟩] => z14_sh a_0_0 a_0_1 (Pw.kI Kv) w
  | _ => False
noncomputable def z14_E : Pw.Env := [(120, z0y_S)]
noncomputable def z14_C : Code := (Tryz.f102.body).getD .skip
noncomputable def z14_A (_Kv : VW) : Pw.A :=
  (A.seq (A.reg (Pw.rn 2 RA.done))
   (A.seq (A.seq (A.reg (Pw.rn 3 RA.done))
   (A.cond (A.seq (A.reg (RA.run RA.done))
   A.leaf)
   A.leaf))
   (A.seq (A.reg (Pw.rn 6 RA.done))
   (A.seq (A.seq (A.reg (Pw.rn 6 RA.done))
   (A.cond (A.reg (Pw.rn 3 RA.done))
   A.leaf))
   (A.seq (A.reg (Pw.rn 2 RA.done))
   A.leaf)))))
noncomputable def z14_O (Kv : VW) : List Ob := (obs Tryz.prog z14_E 21 (z14_A Kv) z14_C (fun _ => retQ Tryz.prog Tryz.f102.results Kv))
theorem z14_e (Kv : VW) (a_0_0 a_0_1 : Int) (w : World) : z14_sd a_0_0 a_0_1 (Pw.kI Kv) w = W Tryz.prog z14_E 21 (z14_A Kv) z14_C [] (retQ Tryz.prog Tryz.f102.results Kv) [] (startS [(Value.agg #[(Value.int .i64 a_0_0), (Value.int .i64 a_0_1)])]) w := by kernel_rfl
theorem z14_n (Kv : VW) : obAt (z14_O Kv) 0 = none := by kernel_rfl
theorem z14_h (Kv : VW) : ∀ k, holdsAt Tryz.prog z14_E 21 (z14_O Kv) k := fun _ => holdsAt_ge (z14_n Kv) (Nat.zero_le _)
theorem z14_ok : Sound Tryz.prog 102 z14_S := ⟨Tryz.call102, fun vs w Kv h => by
  unfold z14_S at h
  split at h
  . have h := h.out
    rw [z14_e] at h
    exact calls_sound (Γ := z14_E) progMixed ⟨.inl z0y_ok, trivial⟩ Tryz.func102 (code := z14_C) (by kernel_rfl) (z14_A Kv) Kv (holds_all (z14_h Kv)) (Nat.le_of_ble_eq_true (by kernel_rfl)) h
  . exact h.elim⟩
end Go.Proofs.YtmkjcheafdionaaGreat
