/- The bodies' formulas, by program. -/
import Derived.Test.YtmkjcheafdionaaGreatProg
import Derived.KernelRfl
import Derived.Test.YtmkjcheafdionaaGreatPwX
import Derived.Test.YtmkjcheafdionaaGreatCG0
import Derived.Test.YtmkjcheafdionaaGreatCG1
import Derived.Test.YtmkjcheafdionaaGreatCG2
import Derived.Test.YtmkjcheafdionaaGreatCG3
import Derived.Test.YtmkjcheafdionaaGreatCG4
import Derived.Test.YtmkjcheafdionaaGreatCG5
set_option maxRecDepth 20000
namespace Go.Proofs.YtmkjcheafdionaaGreat
open Go Pw
/-! Lw_example -/
def z1o_k0d (t_6 p_7 : Addr) (K : Pw.T6) (w : World) : Prop :=
  ∃ x10 : Sl, w.cell? p_7 = some (Value.slice x10.p x10.l x10.c) /\ ∃ x11 : Sl, w.cell? (p_7.add 1) = some (Value.slice x11.p x11.l x11.c) /\ ∃ x12 : Sl, w.cell? (p_7.add 2) = some (Value.slice x12.p x12.l x12.c) /\ ∃ x13 : Int, w.cell? (p_7.add 3) = some (Value.int .i64 x13) /\ ∃ x14 : Int, w.cell? (p_7.add 4) = some (Value.int .i64 x14) /\ stN w t_6 [(Value.slice x10.p x10.l x10.c), (Value.slice x11.p x11.l x11.c), (Value.slice x12.p x12.l x12.c), (Value.int .i64 x13), (Value.int .i64 x14)] fun w15 => ∃ x16 : Sl, w15.cell? t_6 = some (Value.slice x16.p x16.l x16.c) /\ ∃ x17 : Sl, w15.cell? (t_6.add 1) = some (Value.slice x17.p x17.l x17.c) /\ ∃ x18 : Sl, w15.cell? (t_6.add 2) = some (Value.slice x18.p x18.l x18.c) /\ ∃ x19 : Int, w15.cell? (t_6.add 3) = some (Value.int .i64 x19) /\ ∃ x20 : Int, w15.cell? (t_6.add 4) = some (Value.int .i64 x20) /\ K x16 x17 x18 x19 x20 w15
structure z1o_k0 (t_6 p_7 : Addr) (K : Pw.T6) (w : World) : Prop where
  out : z1o_k0d t_6 p_7 K w
def z1o_sd (budget_0 most_1 off_2 : Int) (K : Pw.T6) (w : World) : Prop :=
  let w1 := w.alloc (Obj.cells #[(Value.slice none 0 0), (Value.slice none 0 0), (Value.slice none 0 0), (Value.int .i64 0), (Value.int .i64 0)] 27)
  let w2 := w1.alloc (Obj.cells #[(Value.int .i64 1), (Value.int .i64 2)] 3)
  let w3 := w2.alloc (Obj.cells #[(Value.slice none 0 0), (Value.slice none 0 0), (Value.slice none 0 0), (Value.int .i64 0), (Value.int .i64 0)] 27)
  stN w3 (Addr.mk w2.heap.size 0 none) [(Value.slice (some (Addr.mk w1.heap.size 0 none)) 2 2), (Value.slice none 0 0), (Value.slice none 0 0), (Value.int .i64 most_1), (Value.int .i64 budget_0)] fun w4 => let w5 := w4.alloc (Obj.cells #[(Value.int .i64 1), (Value.int .i64 5), (Value.int .i64 10), (Value.int .i64 8), (Value.int .i64 1), (Value.int .i64 6), (Value.int .i64 7), (Value.int .i64 6), (Value.int .i64 2), (Value.int .i64 5), (Value.int .i64 9), (Value.int .i64 7)] 65)
  wrOk w5 (Addr.mk w2.heap.size 1 none) /\ 
  (let w6 := w5.setCell (Addr.mk w2.heap.size 1 none) (Value.slice (some (Addr.mk w4.heap.size 0 none)) 3 3)
  cnd (decide (off_2 > (0 : Int)))
    (let w7 := w6.alloc (Obj.cells #[(Value.int .i64 1), (Value.int .i64 2)] 3)
  let w8 := w7.alloc (Obj.cells #[(Value.int .i64 5), (Value.slice (some (Addr.mk w6.heap.size 0 none)) 2 2), (Value.int .i64 off_2)] 67)
  wrOk w8 (Addr.mk w2.heap.size 2 none) /\ 
  (let w9 := w8.setCell (Addr.mk w2.heap.size 2 none) (Value.slice (some (Addr.mk w7.heap.size 0 none)) 1 1)
  z1o_k0 (Addr.mk w.heap.size 0 none) (Addr.mk w2.heap.size 0 none) K w9))
    (z1o_k0 (Addr.mk w.heap.size 0 none) (Addr.mk w2.heap.size 0 none) K w6))
structure z1o_sh (budget_0 most_1 off_2 : Int) (K : Pw.T6) (w : World) : Prop where
  out : z1o_sd budget_0 most_1 off_2 K w
def z1o_P0 (Kv : VW) (ρ : Rho) (vs : List Value) (w : World) : Prop :=
  match ρ, vs with
  | _, [.pointer (some t_6), .pointer (some p_7)] => z1o_k0 t_6 p_7 (Pw.kP Kv) w
  | _, _ => False
noncomputable def z1o_S : Pw.Spec := fun vs w Kv =>
  match vs with
  | [.int .i64 budget_0, .int .i64 most_1, .int .i64 off_2] => z1o_sh budget_0 most_1 off_2 (Pw.kP Kv) w
  | _ => False
noncomputable def z1o_E : Pw.Env := []
noncomputable def z1o_C : Code := (Tryz.f26.body).getD .skip
noncomputable def z1o_A (Kv : VW) : Pw.A :=
  (A.seq (A.reg (RA.run RA.done))
   (A.seq (A.reg (Pw.rn 6 RA.done))
   (A.seq (A.reg (Pw.rn 6 RA.done))
   (A.seq (A.seq (A.reg (Pw.rn 2 RA.done))
   (A.cond (A.reg (Pw.rn 6 RA.done))
   A.leaf))
   (A.cut [6, 7] (z1o_P0 Kv) (A.seq (A.reg (Pw.rn 2 RA.done))
   A.leaf))))))
noncomputable def z1o_O (Kv : VW) : List Ob := (obs Tryz.prog z1o_E 25 (z1o_A Kv) z1o_C (fun _ => retQ Tryz.prog Tryz.f26.results Kv))
theorem z1o_e (Kv : VW) (budget_0 most_1 off_2 : Int) (w : World) : z1o_sd budget_0 most_1 off_2 (Pw.kP Kv) w = W Tryz.prog z1o_E 25 (z1o_A Kv) z1o_C [] (retQ Tryz.prog Tryz.f26.results Kv) [] (startS [(Value.int .i64 budget_0), (Value.int .i64 most_1), (Value.int .i64 off_2)]) w := by kernel_rfl
theorem z1o_e0 (Kv : VW) (ρ : Rho) (t_6 p_7 : Addr) (w : World) : z1o_k0d t_6 p_7 (Pw.kP Kv) w = goalAt Tryz.prog z1o_E 25 (z1o_O Kv) 0 (ρ) [(Value.pointer (some t_6)), (Value.pointer (some p_7))] w := by kernel_rfl
theorem z1o_q0 (Kv : VW) (ρ : Rho) (vs : List Value) (w : World) : labAt (z1o_O Kv) 0 ρ vs w = z1o_P0 Kv ρ vs w := by kernel_rfl
theorem z1o_h0 (Kv : VW) : holdsAt Tryz.prog z1o_E 25 (z1o_O Kv) 0 := holdsAt_cut (.inl (by kernel_rfl)) (fun ρ vs w h => by
  rw [z1o_q0] at h
  unfold z1o_P0 at h
  split at h
  . rw [← z1o_e0]; exact h.out
  . exact h.elim)
theorem z1o_n (Kv : VW) : obAt (z1o_O Kv) 1 = none := by kernel_rfl
theorem z1o_h (Kv : VW) : ∀ k, holdsAt Tryz.prog z1o_E 25 (z1o_O Kv) k := fun k => match k with
  | 0 => z1o_h0 Kv
  | _k + 1 => holdsAt_ge (z1o_n Kv) (Nat.le_add_left _ _)
theorem z1o_ok : Sound Tryz.prog 26 z1o_S := ⟨Tryz.call26, fun vs w Kv h => by
  unfold z1o_S at h
  split at h
  . have h := h.out
    rw [z1o_e] at h
    exact calls_sound (Γ := z1o_E) progMixed trivial Tryz.func26 (code := z1o_C) (by kernel_rfl) (z1o_A Kv) Kv (holds_all (z1o_h Kv)) (Nat.le_of_ble_eq_true (by kernel_rfl)) h
  . exact h.elim⟩
/-! Lw_takes -/
def z2s_sd (p_0_0 p_0_1 p_0_2 : Sl) (p_0_3 p_0_4 : Int) (want_1 : Sl) (points_2 : Int) (K : Pw.T0) (w : World) : Prop :=
  let w1 := w.alloc (Obj.cells #[(Value.slice p_0_0.p p_0_0.l p_0_0.c), (Value.slice p_0_1.p p_0_1.l p_0_1.c), (Value.slice p_0_2.p p_0_2.l p_0_2.c), (Value.int .i64 p_0_3), (Value.int .i64 p_0_4)] 27)
  ∃ x2 : Sl, w1.cell? (Addr.mk w.heap.size 0 none) = some (Value.slice x2.p x2.l x2.c) /\ ∃ x3 : Sl, w1.cell? (Addr.mk w.heap.size 1 none) = some (Value.slice x3.p x3.l x3.c) /\ ∃ x4 : Sl, w1.cell? (Addr.mk w.heap.size 2 none) = some (Value.slice x4.p x4.l x4.c) /\ ∃ x5 : Int, w1.cell? (Addr.mk w.heap.size 3 none) = some (Value.int .i64 x5) /\ ∃ x6 : Int, w1.cell? (Addr.mk w.heap.size 4 none) = some (Value.int .i64 x6) /\ z2i_sh x2 x3 x4 x5 x6 (1000 : Int) (fun r8_0 r8_1 r8_2 r8_3 r9 w7 => let w10 := w7.alloc (Obj.cells #[(Value.slice none 0 0), (Value.int .i64 0), (Value.int .i64 0), (Value.slice none 0 0)] 31)
  stN w10 (Addr.mk w7.heap.size 0 none) [(Value.slice r8_0.p r8_0.l r8_0.c), (Value.int .i64 r8_1), (Value.int .i64 r8_2), (Value.slice r8_3.p r8_3.l r8_3.c)] fun w11 => cnd (r9 == (0 : Int))
    (∃ x12 : Sl, w11.cell? (Addr.mk w7.heap.size 0 none) = some (Value.slice x12.p x12.l x12.c) /\ z37_sh x12 want_1 (fun r14 w13 => cnd r14
    (∃ x15 : Int, w13.cell? (Addr.mk w7.heap.size 1 none) = some (Value.int .i64 x15) /\ cnd (x15 == points_2)
    (∃ x16 : Int, w13.cell? (Addr.mk w7.heap.size 2 none) = some (Value.int .i64 x16) /\ K (x16 == points_2) w13)
    (K false w13))
    (K false w13)) w11)
    (K false w11)) w1
structure z2s_sh (p_0_0 p_0_1 p_0_2 : Sl) (p_0_3 p_0_4 : Int) (want_1 : Sl) (points_2 : Int) (K : Pw.T0) (w : World) : Prop where
  out : z2s_sd p_0_0 p_0_1 p_0_2 p_0_3 p_0_4 want_1 points_2 K w
noncomputable def z2s_S : Pw.Spec := fun vs w Kv =>
  match vs with
  | [.agg ⟨[.slice p_0_0p p_0_0l p_0_0c, .slice p_0_1p p_0_1l p_0_1c, .slice p_0_2p p_0_2l p_0_2c, .int .i64 p_0_3, .int .i64 p_0_4]⟩, .slice want_1p want_1l want_1c, .int .i64 points_2] => z2s_sh ⟨p_0_0p, p_0_0l, p_0_0c⟩ ⟨p_0_1p, p_0_1l, p_0_1c⟩ ⟨p_0_2p, p_0_2l, p_0_2c⟩ p_0_3 p_0_4 ⟨want_1p, want_1l, want_1c⟩ points_2 (Pw.kB Kv) w
  | _ => False
noncomputable def z2s_E : Pw.Env := [(11, z2i_S), (15, z37_S)]
noncomputable def z2s_C : Code := (Tryz.f25.body).getD .skip
noncomputable def z2s_A (_Kv : VW) : Pw.A :=
  (A.seq (A.reg (Pw.rn 2 RA.done))
   (A.seq (A.reg (Pw.rn 8 RA.done))
   (A.seq (A.reg (Pw.rn 3 (RA.spl 16 (Pw.rn 6 (RA.spl 22 (Pw.rn 6 (RA.spl 28 (Pw.rn 6 RA.done) (Pw.sk 4 (Pw.rn 2 RA.done)))) (Pw.sk 4 (Pw.rn 2 (Pw.sk 4 (Pw.rn 2 RA.done)))))) (Pw.sk 4 (Pw.rn 2 (Pw.sk 4 (Pw.rn 2 (Pw.sk 4 (Pw.rn 2 RA.done)))))))))
   A.leaf)))
noncomputable def z2s_O (Kv : VW) : List Ob := (obs Tryz.prog z2s_E 34 (z2s_A Kv) z2s_C (fun _ => retQ Tryz.prog Tryz.f25.results Kv))
theorem z2s_e (Kv : VW) (p_0_0p : Option Addr) (p_0_0l p_0_0c : Nat) (p_0_1p : Option Addr) (p_0_1l p_0_1c : Nat) (p_0_2p : Option Addr) (p_0_2l p_0_2c : Nat) (p_0_3 p_0_4 : Int) (want_1p : Option Addr) (want_1l want_1c : Nat) (points_2 : Int) (w : World) : z2s_sd ⟨p_0_0p, p_0_0l, p_0_0c⟩ ⟨p_0_1p, p_0_1l, p_0_1c⟩ ⟨p_0_2p, p_0_2l, p_0_2c⟩ p_0_3 p_0_4 ⟨want_1p, want_1l, want_1c⟩ points_2 (Pw.kB Kv) w = W Tryz.prog z2s_E 34 (z2s_A Kv) z2s_C [] (retQ Tryz.prog Tryz.f25.results Kv) [] (startS [(Value.agg #[(Value.slice p_0_0p p_0_0l p_0_0c), (Value.slice p_0_1p p_0_1l p_0_1c), (Value.slice p_0_2p p_0_2l p_0_2c), (Value.int .i64 p_0_3), (Value.int .i64 p_0_4)]), (Value.slice want_1p want_1l want_1c), (Value.int .i64 points_2)]) w := by kernel_rfl
theorem z2s_n (Kv : VW) : obAt (z2s_O Kv) 0 = none := by kernel_rfl
theorem z2s_h (Kv : VW) : ∀ k, holdsAt Tryz.prog z2s_E 34 (z2s_O Kv) k := fun _ => holdsAt_ge (z2s_n Kv) (Nat.zero_le _)
theorem z2s_ok : Sound Tryz.prog 25 z2s_S := ⟨Tryz.call25, fun vs w Kv h => by
  unfold z2s_S at h
  split at h
  . have h := h.out
    rw [z2s_e] at h
    exact calls_sound (Γ := z2s_E) progMixed ⟨.inl z2i_ok, .inl z37_ok, trivial⟩ Tryz.func25 (code := z2s_C) (by kernel_rfl) (z2s_A Kv) Kv (holds_all (z2s_h Kv)) (Nat.le_of_ble_eq_true (by kernel_rfl)) h
  . exact h.elim⟩
/-! Lw_sanity -/
def z1q_k1d (one_1 two_2 : Bool) (K : Pw.T0) (w : World) : Prop :=
  z1o_sh (18 : Int) (0 : Int) (1 : Int) (fun r27_0 r27_1 r27_2 r27_3 r27_4 w26 => let w28 := w26.alloc (Obj.cells #[(Value.int .i64 0), (Value.int .i64 2)] 3)
  z35_sh r27_0 r27_1 r27_2 r27_3 r27_4 (Sl.mk (some (Addr.mk w26.heap.size 0 none)) 2 2) (fun r30 r31 w29 => cnd one_1
    (cnd two_2
    (cnd (r30 == (18 : Int))
    (K r31 w29)
    (K false w29))
    (K false w29))
    (K false w29)) w28) w
structure z1q_k1 (one_1 two_2 : Bool) (K : Pw.T0) (w : World) : Prop where
  out : z1q_k1d one_1 two_2 K w
def z1q_k0d (one_1 : Bool) (K : Pw.T0) (w : World) : Prop :=
  z1o_sh (19 : Int) (1 : Int) (0 : Int) (fun r17_0 r17_1 r17_2 r17_3 r17_4 w16 => let w18 := w16.alloc (Obj.cells #[(Value.int .i64 1), (Value.int .i64 2)] 3)
  z2s_sh r17_0 r17_1 r17_2 r17_3 r17_4 (Sl.mk (some (Addr.mk w16.heap.size 0 none)) 2 2) (13 : Int) (fun r20 w19 => cnd r20
    (z1o_sh (6 : Int) (0 : Int) (0 : Int) (fun r22_0 r22_1 r22_2 r22_3 r22_4 w21 => let w23 := w21.alloc (Obj.cells #[(Value.int .i64 (-1)), (Value.int .i64 (-1))] 3)
  z2s_sh r22_0 r22_1 r22_2 r22_3 r22_4 (Sl.mk (some (Addr.mk w21.heap.size 0 none)) 2 2) (0 : Int) (fun r25 w24 => z1q_k1 one_1 r25 K w24) w23) w19)
    (z1q_k1 one_1 false K w19)) w18) w
structure z1q_k0 (one_1 : Bool) (K : Pw.T0) (w : World) : Prop where
  out : z1q_k0d one_1 K w
def z1q_sd (K : Pw.T0) (w : World) : Prop :=
  z1o_sh (19 : Int) (0 : Int) (0 : Int) (fun r2_0 r2_1 r2_2 r2_3 r2_4 w1 => let w3 := w1.alloc (Obj.cells #[(Value.int .i64 0), (Value.int .i64 2)] 3)
  z2s_sh r2_0 r2_1 r2_2 r2_3 r2_4 (Sl.mk (some (Addr.mk w1.heap.size 0 none)) 2 2) (15 : Int) (fun r5 w4 => cnd r5
    (z1o_sh (18 : Int) (0 : Int) (0 : Int) (fun r7_0 r7_1 r7_2 r7_3 r7_4 w6 => let w8 := w6.alloc (Obj.cells #[(Value.int .i64 1), (Value.int .i64 2)] 3)
  z2s_sh r7_0 r7_1 r7_2 r7_3 r7_4 (Sl.mk (some (Addr.mk w6.heap.size 0 none)) 2 2) (13 : Int) (fun r10 w9 => cnd r10
    (z1o_sh (18 : Int) (0 : Int) (1 : Int) (fun r12_0 r12_1 r12_2 r12_3 r12_4 w11 => let w13 := w11.alloc (Obj.cells #[(Value.int .i64 0), (Value.int .i64 2)] 3)
  z2s_sh r12_0 r12_1 r12_2 r12_3 r12_4 (Sl.mk (some (Addr.mk w11.heap.size 0 none)) 2 2) (15 : Int) (fun r15 w14 => z1q_k0 r15 K w14) w13) w9)
    (z1q_k0 false K w9)) w8) w4)
    (z1q_k0 false K w4)) w3) w
structure z1q_sh (K : Pw.T0) (w : World) : Prop where
  out : z1q_sd K w
def z1q_P0 (Kv : VW) (ρ : Rho) (vs : List Value) (w : World) : Prop :=
  match ρ, vs with
  | _, [.bool one_1] => z1q_k0 one_1 (Pw.kB Kv) w
  | _, _ => False
def z1q_P1 (Kv : VW) (ρ : Rho) (vs : List Value) (w : World) : Prop :=
  match ρ, vs with
  | _, [.bool one_1, .bool two_2] => z1q_k1 one_1 two_2 (Pw.kB Kv) w
  | _, _ => False
noncomputable def z1q_S : Pw.Spec := fun vs w Kv =>
  match vs with
  | [] => z1q_sh (Pw.kB Kv) w
  | _ => False
noncomputable def z1q_E : Pw.Env := [(22, z35_S), (25, z2s_S), (26, z1o_S)]
noncomputable def z1q_C : Code := (Tryz.f9.body).getD .skip
noncomputable def z1q_A (Kv : VW) : Pw.A :=
  (A.seq (A.reg (RA.run RA.done))
   (A.seq (A.reg (Pw.rn 4 (RA.spl 8 (Pw.rn 5 (RA.spl 13 (Pw.rn 5 RA.done) (Pw.sk 3 (Pw.rn 2 RA.done)))) (Pw.sk 3 (Pw.rn 2 (Pw.sk 3 (Pw.rn 2 RA.done)))))))
   (A.cut [1] (z1q_P0 Kv) (A.seq (A.reg (Pw.rn 4 (RA.spl 21 (Pw.rn 5 RA.done) (Pw.sk 3 (Pw.rn 2 RA.done)))))
   (A.cut [1, 2] (z1q_P1 Kv) (A.seq (A.reg (Pw.rn 8 RA.done))
   (A.seq (A.reg (Pw.rn 2 (RA.spl 33 (Pw.rn 3 (RA.spl 36 (Pw.rn 4 (RA.spl 40 (Pw.rn 3 RA.done) (RA.skp (Pw.rn 2 RA.done)))) (Pw.sk 2 (Pw.rn 2 (RA.skp (Pw.rn 2 RA.done)))))) (RA.skp (Pw.rn 2 (Pw.sk 2 (Pw.rn 2 (RA.skp (Pw.rn 2 RA.done)))))))))
   A.leaf)))))))
noncomputable def z1q_O (Kv : VW) : List Ob := (obs Tryz.prog z1q_E 43 (z1q_A Kv) z1q_C (fun _ => retQ Tryz.prog Tryz.f9.results Kv))
theorem z1q_e (Kv : VW) (w : World) : z1q_sd (Pw.kB Kv) w = W Tryz.prog z1q_E 43 (z1q_A Kv) z1q_C [] (retQ Tryz.prog Tryz.f9.results Kv) [] (startS []) w := by kernel_rfl
theorem z1q_e0 (Kv : VW) (ρ : Rho) (one_1 : Bool) (w : World) : z1q_k0d one_1 (Pw.kB Kv) w = goalAt Tryz.prog z1q_E 43 (z1q_O Kv) 0 (ρ) [(Value.bool one_1)] w := by kernel_rfl
theorem z1q_q0 (Kv : VW) (ρ : Rho) (vs : List Value) (w : World) : labAt (z1q_O Kv) 0 ρ vs w = z1q_P0 Kv ρ vs w := by kernel_rfl
theorem z1q_h0 (Kv : VW) : holdsAt Tryz.prog z1q_E 43 (z1q_O Kv) 0 := holdsAt_cut (.inl (by kernel_rfl)) (fun ρ vs w h => by
  rw [z1q_q0] at h
  unfold z1q_P0 at h
  split at h
  . rw [← z1q_e0]; exact h.out
  . exact h.elim)
theorem z1q_e1 (Kv : VW) (ρ : Rho) (one_1 two_2 : Bool) (w : World) : z1q_k1d one_1 two_2 (Pw.kB Kv) w = goalAt Tryz.prog z1q_E 43 (z1q_O Kv) 1 (ρ) [(Value.bool one_1), (Value.bool two_2)] w := by kernel_rfl
theorem z1q_q1 (Kv : VW) (ρ : Rho) (vs : List Value) (w : World) : labAt (z1q_O Kv) 1 ρ vs w = z1q_P1 Kv ρ vs w := by kernel_rfl
theorem z1q_h1 (Kv : VW) : holdsAt Tryz.prog z1q_E 43 (z1q_O Kv) 1 := holdsAt_cut (.inl (by kernel_rfl)) (fun ρ vs w h => by
  rw [z1q_q1] at h
  unfold z1q_P1 at h
  split at h
  . rw [← z1q_e1]; exact h.out
  . exact h.elim)
theorem z1q_n (Kv : VW) : obAt (z1q_O Kv) 2 = none := by kernel_rfl
theorem z1q_h (Kv : VW) : ∀ k, holdsAt Tryz.prog z1q_E 43 (z1q_O Kv) k := fun k => match k with
  | 0 => z1q_h0 Kv
  | 1 => z1q_h1 Kv
  | _k + 2 => holdsAt_ge (z1q_n Kv) (Nat.le_add_left _ _)
theorem z1q_ok : Sound Tryz.prog 9 z1q_S := ⟨Tryz.call9, fun vs w Kv h => by
  unfold z1q_S at h
  split at h
  . have h := h.out
    rw [z1q_e] at h
    exact calls_sound (Γ := z1q_E) progMixed ⟨.inl z35_ok, .inl z2s_ok, .inl z1o_ok, trivial⟩ Tryz.func9 (code := z1q_C) (by kernel_rfl) (z1q_A Kv) Kv (holds_all (z1q_h Kv)) (Nat.le_of_ble_eq_true (by kernel_rfl)) h
  . exact h.elim⟩
/-! Lw_CombineSolves -/
def z0d_k0d (up_3 : Bool) (p_4 r_5 : Addr) (e_6 : Int) (K : Pw.T0) (w : World) : Prop :=
  ∃ x38 : Sl, w.cell? p_4 = some (Value.slice x38.p x38.l x38.c) /\ ∃ x39 : Sl, w.cell? (p_4.add 1) = some (Value.slice x39.p x39.l x39.c) /\ ∃ x40 : Sl, w.cell? (p_4.add 2) = some (Value.slice x40.p x40.l x40.c) /\ ∃ x41 : Int, w.cell? (p_4.add 3) = some (Value.int .i64 x41) /\ ∃ x42 : Int, w.cell? (p_4.add 4) = some (Value.int .i64 x42) /\ z36_sh x38 x39 x40 x41 x42 (fun r44 w43 => ∃ x45 : Sl, w43.cell? p_4 = some (Value.slice x45.p x45.l x45.c) /\ ∃ x46 : Sl, w43.cell? (p_4.add 1) = some (Value.slice x46.p x46.l x46.c) /\ ∃ x47 : Sl, w43.cell? (p_4.add 2) = some (Value.slice x47.p x47.l x47.c) /\ ∃ x48 : Int, w43.cell? (p_4.add 3) = some (Value.int .i64 x48) /\ ∃ x49 : Int, w43.cell? (p_4.add 4) = some (Value.int .i64 x49) /\ z1w_sh x45 x46 x47 x48 x49 r44 (fun r51 w50 => cnd up_3
    (cnd (e_6 == (0 : Int))
    (∃ x52 : Sl, w50.cell? r_5 = some (Value.slice x52.p x52.l x52.c) /\ z37_sh x52 r44 (fun r54 w53 => cnd r54
    (∃ x55 : Int, w53.cell? (r_5.add 1) = some (Value.int .i64 x55) /\ cnd (x55 == r51)
    (∃ x56 : Int, w53.cell? (r_5.add 2) = some (Value.int .i64 x56) /\ K (x56 == r51) w53)
    (K false w53))
    (K false w53)) w50)
    (K false w50))
    (K false w50)) w43) w
structure z0d_k0 (up_3 : Bool) (p_4 r_5 : Addr) (e_6 : Int) (K : Pw.T0) (w : World) : Prop where
  out : z0d_k0d up_3 p_4 r_5 e_6 K w
def z0d_sd (l_0 : Sl) (K : Pw.T0) (w : World) : Prop :=
  z1q_sh (fun r2 w1 => z2x_sh l_0 (fun r4_0 r4_1 r4_2 r4_3 r4_4 w3 => let w5 := w3.alloc (Obj.cells #[(Value.slice none 0 0), (Value.slice none 0 0), (Value.slice none 0 0), (Value.int .i64 0), (Value.int .i64 0)] 27)
  stN w5 (Addr.mk w3.heap.size 0 none) [(Value.slice r4_0.p r4_0.l r4_0.c), (Value.slice r4_1.p r4_1.l r4_1.c), (Value.slice r4_2.p r4_2.l r4_2.c), (Value.int .i64 r4_3), (Value.int .i64 r4_4)] fun w6 => let w7 := w6.drew
  ∃ S8 : World -> Prop, S8 w7 /\ ∃ x9 : Sl, (∀ w' : World, S8 w' -> w'.cell? (Addr.mk w3.heap.size 0 none) = some (Value.slice x9.p x9.l x9.c)) /\ ∃ x10 : Sl, (∀ w' : World, S8 w' -> w'.cell? (Addr.mk w3.heap.size 1 none) = some (Value.slice x10.p x10.l x10.c)) /\ ∃ x11 : Sl, (∀ w' : World, S8 w' -> w'.cell? (Addr.mk w3.heap.size 2 none) = some (Value.slice x11.p x11.l x11.c)) /\ ∃ x12 : Int, (∀ w' : World, S8 w' -> w'.cell? (Addr.mk w3.heap.size 3 none) = some (Value.int .i64 x12)) /\ ∃ x13 : Int, (∀ w' : World, S8 w' -> w'.cell? (Addr.mk w3.heap.size 4 none) = some (Value.int .i64 x13)) /\ ∃ x14 : Sl, (∀ w' : World, S8 w' -> w'.cell? (Addr.mk w3.heap.size 0 none) = some (Value.slice x14.p x14.l x14.c)) /\ ∃ x15 : Sl, (∀ w' : World, S8 w' -> w'.cell? (Addr.mk w3.heap.size 1 none) = some (Value.slice x15.p x15.l x15.c)) /\ ∃ x16 : Sl, (∀ w' : World, S8 w' -> w'.cell? (Addr.mk w3.heap.size 2 none) = some (Value.slice x16.p x16.l x16.c)) /\ ∃ x17 : Int, (∀ w' : World, S8 w' -> w'.cell? (Addr.mk w3.heap.size 3 none) = some (Value.int .i64 x17)) /\ ∃ x18 : Int, (∀ w' : World, S8 w' -> w'.cell? (Addr.mk w3.heap.size 4 none) = some (Value.int .i64 x18)) /\ (z10_sh x14 x15 x16 x17 x18 (fun r20 w19 => S8 w19 /\ (z2i_sh x9 x10 x11 x12 x13 r20 (fun r22_0 r22_1 r22_2 r22_3 r23 w21 => S8 w21 /\ let w24 := w21.alloc (Obj.cells #[(Value.slice none 0 0), (Value.int .i64 0), (Value.int .i64 0), (Value.slice none 0 0)] 31)
  S8 w24 /\ stN w24 (Addr.mk w21.heap.size 0 none) [(Value.slice r22_0.p r22_0.l r22_0.c), (Value.int .i64 r22_1), (Value.int .i64 r22_2), (Value.slice r22_3.p r22_3.l r22_3.c)] fun w25 => z0d_k0 r2 (Addr.mk w3.heap.size 0 none) (Addr.mk w21.heap.size 0 none) r23 K w25) w19)
    /\ (let w26 := w19.alloc (Obj.cells #[(Value.slice none 0 0), (Value.int .i64 0), (Value.int .i64 0), (Value.slice none 0 0)] 31)
  S8 w26 /\ z2i_sh x9 x10 x11 x12 x13 r20 (fun r28_0 r28_1 r28_2 r28_3 r29 w27 => S8 w27 /\ stN w27 (Addr.mk w19.heap.size 0 none) [(Value.slice r28_0.p r28_0.l r28_0.c), (Value.int .i64 r28_1), (Value.int .i64 r28_2), (Value.slice r28_3.p r28_3.l r28_3.c)] fun w30 => z0d_k0 r2 (Addr.mk w3.heap.size 0 none) (Addr.mk w19.heap.size 0 none) r29 K w30) w26)) w7)
    /\ (let w31 := w7.alloc (Obj.cells #[(Value.slice none 0 0), (Value.int .i64 0), (Value.int .i64 0), (Value.slice none 0 0)] 31)
  S8 w31 /\ z10_sh x14 x15 x16 x17 x18 (fun r33 w32 => S8 w32 /\ z2i_sh x9 x10 x11 x12 x13 r33 (fun r35_0 r35_1 r35_2 r35_3 r36 w34 => S8 w34 /\ stN w34 (Addr.mk w7.heap.size 0 none) [(Value.slice r35_0.p r35_0.l r35_0.c), (Value.int .i64 r35_1), (Value.int .i64 r35_2), (Value.slice r35_3.p r35_3.l r35_3.c)] fun w37 => z0d_k0 r2 (Addr.mk w3.heap.size 0 none) (Addr.mk w7.heap.size 0 none) r36 K w37) w32) w31)) w1) w
structure z0d_sh (l_0 : Sl) (K : Pw.T0) (w : World) : Prop where
  out : z0d_sd l_0 K w
def z0d_P0 (Kv : VW) (ρ : Rho) (vs : List Value) (w : World) : Prop :=
  match ρ, vs with
  | _, [.bool up_3, .pointer (some p_4), .pointer (some r_5), .int .i64 e_6] => z0d_k0 up_3 p_4 r_5 e_6 (Pw.kB Kv) w
  | _, _ => False
noncomputable def z0d_S : Pw.Spec := fun vs w Kv =>
  match vs with
  | [.slice l_0p l_0l l_0c] => z0d_sh ⟨l_0p, l_0l, l_0c⟩ (Pw.kB Kv) w
  | _ => False
noncomputable def z0d_E : Pw.Env := [(9, z1q_S), (10, z2x_S), (11, z2i_S), (12, z10_S), (13, z36_S), (14, z1w_S), (15, z37_S)]
noncomputable def z0d_C : Code := (Tryz.f3.body).getD .skip
noncomputable def z0d_A (Kv : VW) : Pw.A :=
  (A.seq (A.reg (RA.run RA.done))
   (A.seq (A.reg (Pw.rn 2 RA.done))
   (A.seq (A.reg (Pw.rn 4 RA.done))
   (A.seq (A.drw (DA.pur 0 (DA.pur 1 (DA.two 2 (DA.two 3 (DA.pur 4 (DA.pur 5 (DA.pur 6 (DA.eff 7 (DA.eff 8 (DA.pur 9 DA.done)))))) 7 (DA.eff 3 (DA.pur 4 (DA.pur 5 (DA.pur 6 (DA.eff 8 (DA.pur 9 DA.done))))))) 7 (DA.eff 2 (DA.eff 3 (DA.pur 4 (DA.pur 5 (DA.pur 6 (DA.eff 8 (DA.pur 9 DA.done)))))))))))
   (A.cut [3, 4, 5, 6] (z0d_P0 Kv) (A.seq (A.reg (Pw.rn 3 RA.done))
   (A.seq (A.reg (Pw.rn 4 RA.done))
   (A.seq (A.reg (Pw.rn 2 (RA.spl 25 (Pw.rn 4 (RA.spl 29 (Pw.rn 6 (RA.spl 35 (Pw.rn 6 (RA.spl 41 (Pw.rn 6 RA.done) (Pw.sk 4 (Pw.rn 2 RA.done)))) (Pw.sk 4 (Pw.rn 2 (Pw.sk 4 (Pw.rn 2 RA.done)))))) (Pw.sk 4 (Pw.rn 2 (Pw.sk 4 (Pw.rn 2 (Pw.sk 4 (Pw.rn 2 RA.done)))))))) (Pw.sk 2 (Pw.rn 2 (Pw.sk 4 (Pw.rn 2 (Pw.sk 4 (Pw.rn 2 (Pw.sk 4 (Pw.rn 2 RA.done)))))))))))
   A.leaf))))))))
noncomputable def z0d_O (Kv : VW) : List Ob := (obs Tryz.prog z0d_E 47 (z0d_A Kv) z0d_C (fun _ => retQ Tryz.prog Tryz.f3.results Kv))
theorem z0d_e (Kv : VW) (l_0p : Option Addr) (l_0l l_0c : Nat) (w : World) : z0d_sd ⟨l_0p, l_0l, l_0c⟩ (Pw.kB Kv) w = W Tryz.prog z0d_E 47 (z0d_A Kv) z0d_C [] (retQ Tryz.prog Tryz.f3.results Kv) [] (startS [(Value.slice l_0p l_0l l_0c)]) w := by kernel_rfl
theorem z0d_e0 (Kv : VW) (ρ : Rho) (up_3 : Bool) (p_4 r_5 : Addr) (e_6 : Int) (w : World) : z0d_k0d up_3 p_4 r_5 e_6 (Pw.kB Kv) w = goalAt Tryz.prog z0d_E 47 (z0d_O Kv) 0 (ρ) [(Value.bool up_3), (Value.pointer (some p_4)), (Value.pointer (some r_5)), (Value.int .i64 e_6)] w := by kernel_rfl
theorem z0d_q0 (Kv : VW) (ρ : Rho) (vs : List Value) (w : World) : labAt (z0d_O Kv) 0 ρ vs w = z0d_P0 Kv ρ vs w := by kernel_rfl
theorem z0d_h0 (Kv : VW) : holdsAt Tryz.prog z0d_E 47 (z0d_O Kv) 0 := holdsAt_cut (.inl (by kernel_rfl)) (fun ρ vs w h => by
  rw [z0d_q0] at h
  unfold z0d_P0 at h
  split at h
  . rw [← z0d_e0]; exact h.out
  . exact h.elim)
theorem z0d_n (Kv : VW) : obAt (z0d_O Kv) 1 = none := by kernel_rfl
theorem z0d_h (Kv : VW) : ∀ k, holdsAt Tryz.prog z0d_E 47 (z0d_O Kv) k := fun k => match k with
  | 0 => z0d_h0 Kv
  | _k + 1 => holdsAt_ge (z0d_n Kv) (Nat.le_add_left _ _)
theorem z0d_ok : Sound Tryz.prog 3 z0d_S := ⟨Tryz.call3, fun vs w Kv h => by
  unfold z0d_S at h
  split at h
  . have h := h.out
    rw [z0d_e] at h
    exact calls_sound (Γ := z0d_E) progMixed ⟨.inl z1q_ok, .inl z2x_ok, .inl z2i_ok, .inl z10_ok, .inl z36_ok, .inl z1w_ok, .inl z37_ok, trivial⟩ Tryz.func3 (code := z0d_C) (by kernel_rfl) (z0d_A Kv) Kv (holds_all (z0d_h Kv)) (Nat.le_of_ble_eq_true (by kernel_rfl)) h
  . exact h.elim⟩
end Go.Proofs.YtmkjcheafdionaaGreat
