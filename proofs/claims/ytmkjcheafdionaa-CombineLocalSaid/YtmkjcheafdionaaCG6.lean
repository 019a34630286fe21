/- The bodies' formulas, by program. -/
import Derived.Test.YtmkjcheafdionaaProg
import Derived.KernelRfl
import Derived.Test.YtmkjcheafdionaaPwX
import Derived.Test.YtmkjcheafdionaaCG0
import Derived.Test.YtmkjcheafdionaaCG1
import Derived.Test.YtmkjcheafdionaaCG2
import Derived.Test.YtmkjcheafdionaaCG3
import Derived.Test.YtmkjcheafdionaaCG4
import Derived.Test.YtmkjcheafdionaaCG5
set_option maxRecDepth 20000
namespace Go.Proofs.Ytmkjcheafdionaa
open Go Pw
/-! Lw_example -/
def Lw_example_k0d (t_6 p_7 : Addr) (K : Sl -> Sl -> Sl -> Int -> Int -> World -> Prop) (w : World) : Prop :=
  ∃ x10 : Sl, w.cell? p_7 = some (Value.slice x10.p x10.l x10.c) /\ ∃ x11 : Sl, w.cell? (p_7.add 1) = some (Value.slice x11.p x11.l x11.c) /\ ∃ x12 : Sl, w.cell? (p_7.add 2) = some (Value.slice x12.p x12.l x12.c) /\ ∃ x13 : Int, w.cell? (p_7.add 3) = some (Value.int .i64 x13) /\ ∃ x14 : Int, w.cell? (p_7.add 4) = some (Value.int .i64 x14) /\ stN w t_6 [(Value.slice x10.p x10.l x10.c), (Value.slice x11.p x11.l x11.c), (Value.slice x12.p x12.l x12.c), (Value.int .i64 x13), (Value.int .i64 x14)] fun w15 => ∃ x16 : Sl, w15.cell? t_6 = some (Value.slice x16.p x16.l x16.c) /\ ∃ x17 : Sl, w15.cell? (t_6.add 1) = some (Value.slice x17.p x17.l x17.c) /\ ∃ x18 : Sl, w15.cell? (t_6.add 2) = some (Value.slice x18.p x18.l x18.c) /\ ∃ x19 : Int, w15.cell? (t_6.add 3) = some (Value.int .i64 x19) /\ ∃ x20 : Int, w15.cell? (t_6.add 4) = some (Value.int .i64 x20) /\ K x16 x17 x18 x19 x20 w15
structure Lw_example_k0 (t_6 p_7 : Addr) (K : Sl -> Sl -> Sl -> Int -> Int -> World -> Prop) (w : World) : Prop where
  out : Lw_example_k0d t_6 p_7 K w
def Lw_example_sd (budget_0 most_1 off_2 : Int) (K : Sl -> Sl -> Sl -> Int -> Int -> World -> Prop) (w : World) : Prop :=
  let w1 := w.alloc (Obj.cells #[(Value.slice none 0 0), (Value.slice none 0 0), (Value.slice none 0 0), (Value.int .i64 0), (Value.int .i64 0)] 28)
  let w2 := w1.alloc (Obj.cells #[(Value.int .i64 1), (Value.int .i64 2)] 3)
  let w3 := w2.alloc (Obj.cells #[(Value.slice none 0 0), (Value.slice none 0 0), (Value.slice none 0 0), (Value.int .i64 0), (Value.int .i64 0)] 28)
  stN w3 (Addr.mk w2.heap.size 0 none) [(Value.slice (some (Addr.mk w1.heap.size 0 none)) 2 2), (Value.slice none 0 0), (Value.slice none 0 0), (Value.int .i64 most_1), (Value.int .i64 budget_0)] fun w4 => let w5 := w4.alloc (Obj.cells #[(Value.int .i64 1), (Value.int .i64 5), (Value.int .i64 10), (Value.int .i64 8), (Value.int .i64 1), (Value.int .i64 6), (Value.int .i64 7), (Value.int .i64 6), (Value.int .i64 2), (Value.int .i64 5), (Value.int .i64 9), (Value.int .i64 7)] 56)
  wrOk w5 (Addr.mk w2.heap.size 1 none) /\ 
  (let w6 := w5.setCell (Addr.mk w2.heap.size 1 none) (Value.slice (some (Addr.mk w4.heap.size 0 none)) 3 3)
  cnd (decide (off_2 > (0 : Int)))
    (let w7 := w6.alloc (Obj.cells #[(Value.int .i64 1), (Value.int .i64 2)] 3)
  let w8 := w7.alloc (Obj.cells #[(Value.int .i64 5), (Value.slice (some (Addr.mk w6.heap.size 0 none)) 2 2), (Value.int .i64 off_2)] 58)
  wrOk w8 (Addr.mk w2.heap.size 2 none) /\ 
  (let w9 := w8.setCell (Addr.mk w2.heap.size 2 none) (Value.slice (some (Addr.mk w7.heap.size 0 none)) 1 1)
  Lw_example_k0 (Addr.mk w.heap.size 0 none) (Addr.mk w2.heap.size 0 none) K w9))
    (Lw_example_k0 (Addr.mk w.heap.size 0 none) (Addr.mk w2.heap.size 0 none) K w6))
structure Lw_example_sh (budget_0 most_1 off_2 : Int) (K : Sl -> Sl -> Sl -> Int -> Int -> World -> Prop) (w : World) : Prop where
  out : Lw_example_sd budget_0 most_1 off_2 K w
def Lw_example_P0 (Kv : VW) (ρ : Rho) (vs : List Value) (w : World) : Prop :=
  match ρ, vs with
  | _, [.pointer (some t_6), .pointer (some p_7)] => Lw_example_k0 t_6 p_7 (fun r0_0 r0_1 r0_2 r0_3 r0_4 w' => Kv (Value.agg #[(Value.slice r0_0.p r0_0.l r0_0.c), (Value.slice r0_1.p r0_1.l r0_1.c), (Value.slice r0_2.p r0_2.l r0_2.c), (Value.int .i64 r0_3), (Value.int .i64 r0_4)]) w') w
  | _, _ => False
noncomputable def Lw_example_S : Pw.Spec := fun vs w Kv =>
  match vs with
  | [.int .i64 budget_0, .int .i64 most_1, .int .i64 off_2] => Lw_example_sh budget_0 most_1 off_2 (fun r0_0 r0_1 r0_2 r0_3 r0_4 w' => Kv (Value.agg #[(Value.slice r0_0.p r0_0.l r0_0.c), (Value.slice r0_1.p r0_1.l r0_1.c), (Value.slice r0_2.p r0_2.l r0_2.c), (Value.int .i64 r0_3), (Value.int .i64 r0_4)]) w') w
  | _ => False
noncomputable def Lw_example_E : Pw.Env := []
noncomputable def Lw_example_C : Code := (Try.f18.body).getD .skip
noncomputable def Lw_example_A (Kv : VW) : Pw.A :=
  (A.seq (A.reg (RA.run RA.done))
   (A.seq (A.reg (Pw.rn 6 RA.done))
   (A.seq (A.reg (Pw.rn 6 RA.done))
   (A.seq (A.seq (A.reg (Pw.rn 2 RA.done))
   (A.cond (A.reg (Pw.rn 6 RA.done))
   A.leaf))
   (A.cut [6, 7] (Lw_example_P0 Kv) (A.seq (A.reg (Pw.rn 2 RA.done))
   A.leaf))))))
noncomputable def Lw_example_O (Kv : VW) : List Ob := (obs Try.prog Lw_example_E 25 (Lw_example_A Kv) Lw_example_C (fun _ => retQ Try.prog Try.f18.results Kv))
theorem Lw_example_e (Kv : VW) (budget_0 most_1 off_2 : Int) (w : World) : Lw_example_sd budget_0 most_1 off_2 (fun r0_0 r0_1 r0_2 r0_3 r0_4 w' => Kv (Value.agg #[(Value.slice r0_0.p r0_0.l r0_0.c), (Value.slice r0_1.p r0_1.l r0_1.c), (Value.slice r0_2.p r0_2.l r0_2.c), (Value.int .i64 r0_3), (Value.int .i64 r0_4)]) w') w = W Try.prog Lw_example_E 25 (Lw_example_A Kv) Lw_example_C [] (retQ Try.prog Try.f18.results Kv) [] (startS [(Value.int .i64 budget_0), (Value.int .i64 most_1), (Value.int .i64 off_2)]) w := by kernel_rfl
theorem Lw_example_e0 (Kv : VW) (ρ : Rho) (t_6 p_7 : Addr) (w : World) : Lw_example_k0d t_6 p_7 (fun r0_0 r0_1 r0_2 r0_3 r0_4 w' => Kv (Value.agg #[(Value.slice r0_0.p r0_0.l r0_0.c), (Value.slice r0_1.p r0_1.l r0_1.c), (Value.slice r0_2.p r0_2.l r0_2.c), (Value.int .i64 r0_3), (Value.int .i64 r0_4)]) w') w = goalAt Try.prog Lw_example_E 25 (Lw_example_O Kv) 0 (ρ) [(Value.pointer (some t_6)), (Value.pointer (some p_7))] w := by kernel_rfl
theorem Lw_example_q0 (Kv : VW) (ρ : Rho) (vs : List Value) (w : World) : labAt (Lw_example_O Kv) 0 ρ vs w = Lw_example_P0 Kv ρ vs w := by kernel_rfl
theorem Lw_example_h0 (Kv : VW) : holdsAt Try.prog Lw_example_E 25 (Lw_example_O Kv) 0 := holdsAt_cut (.inl (by kernel_rfl)) (fun ρ vs w h => by
  rw [Lw_example_q0] at h
  unfold Lw_example_P0 at h
  split at h
  · rw [← Lw_example_e0]; exact h.out
  · exact h.elim)
theorem Lw_example_n (Kv : VW) : obAt (Lw_example_O Kv) 1 = none := by kernel_rfl
theorem Lw_example_h (Kv : VW) : ∀ k, holdsAt Try.prog Lw_example_E 25 (Lw_example_O Kv) k := fun k => match k with
  | 0 => Lw_example_h0 Kv
  | _k + 1 => holdsAt_ge (Lw_example_n Kv) (Nat.le_add_left _ _)
theorem Lw_example_ok : Sound Try.prog 18 Lw_example_S := ⟨Try.call18, fun vs w Kv h => by
  unfold Lw_example_S at h
  split at h
  · have h := h.out
    rw [Lw_example_e] at h
    exact calls_sound (Γ := Lw_example_E) progMixed trivial Try.func18 (code := Lw_example_C) (by kernel_rfl) (Lw_example_A Kv) Kv (holds_all (Lw_example_h Kv)) (Nat.le_of_ble_eq_true (by kernel_rfl)) h
  · exact h.elim⟩
/-! Lw_takes -/
def Lw_takes_sd (p_0_0 p_0_1 p_0_2 : Sl) (p_0_3 p_0_4 : Int) (want_1 : Sl) (points_2 : Int) (K : Bool -> World -> Prop) (w : World) : Prop :=
  let w1 := w.alloc (Obj.cells #[(Value.slice p_0_0.p p_0_0.l p_0_0.c), (Value.slice p_0_1.p p_0_1.l p_0_1.c), (Value.slice p_0_2.p p_0_2.l p_0_2.c), (Value.int .i64 p_0_3), (Value.int .i64 p_0_4)] 28)
  ∃ x2 : Sl, w1.cell? (Addr.mk w.heap.size 0 none) = some (Value.slice x2.p x2.l x2.c) /\ ∃ x3 : Sl, w1.cell? (Addr.mk w.heap.size 1 none) = some (Value.slice x3.p x3.l x3.c) /\ ∃ x4 : Sl, w1.cell? (Addr.mk w.heap.size 2 none) = some (Value.slice x4.p x4.l x4.c) /\ ∃ x5 : Int, w1.cell? (Addr.mk w.heap.size 3 none) = some (Value.int .i64 x5) /\ ∃ x6 : Int, w1.cell? (Addr.mk w.heap.size 4 none) = some (Value.int .i64 x6) /\ Cb_Solve_sh x2 x3 x4 x5 x6 (1000 : Int) (fun r8_0 r8_1 r8_2 r8_3 r9 w7 => let w10 := w7.alloc (Obj.cells #[(Value.slice none 0 0), (Value.int .i64 0), (Value.int .i64 0), (Value.slice none 0 0)] 33)
  stN w10 (Addr.mk w7.heap.size 0 none) [(Value.slice r8_0.p r8_0.l r8_0.c), (Value.int .i64 r8_1), (Value.int .i64 r8_2), (Value.slice r8_3.p r8_3.l r8_3.c)] fun w11 => cnd (r9 == (0 : Int))
    (∃ x12 : Sl, w11.cell? (Addr.mk w7.heap.size 0 none) = some (Value.slice x12.p x12.l x12.c) /\ Rf_Ints_sh x12 want_1 (fun r14 w13 => cnd r14
    (∃ x15 : Int, w13.cell? (Addr.mk w7.heap.size 1 none) = some (Value.int .i64 x15) /\ cnd (x15 == points_2)
    (∃ x16 : Int, w13.cell? (Addr.mk w7.heap.size 2 none) = some (Value.int .i64 x16) /\ K (x16 == points_2) w13)
    (K false w13))
    (K false w13)) w11)
    (K false w11)) w1
structure Lw_takes_sh (p_0_0 p_0_1 p_0_2 : Sl) (p_0_3 p_0_4 : Int) (want_1 : Sl) (points_2 : Int) (K : Bool -> World -> Prop) (w : World) : Prop where
  out : Lw_takes_sd p_0_0 p_0_1 p_0_2 p_0_3 p_0_4 want_1 points_2 K w
noncomputable def Lw_takes_S : Pw.Spec := fun vs w Kv =>
  match vs with
  | [.agg ⟨[.slice p_0_0p p_0_0l p_0_0c, .slice p_0_1p p_0_1l p_0_1c, .slice p_0_2p p_0_2l p_0_2c, .int .i64 p_0_3, .int .i64 p_0_4]⟩, .slice want_1p want_1l want_1c, .int .i64 points_2] => Lw_takes_sh ⟨p_0_0p, p_0_0l, p_0_0c⟩ ⟨p_0_1p, p_0_1l, p_0_1c⟩ ⟨p_0_2p, p_0_2l, p_0_2c⟩ p_0_3 p_0_4 ⟨want_1p, want_1l, want_1c⟩ points_2 (fun r0 w' => Kv (Value.bool r0) w') w
  | _ => False
noncomputable def Lw_takes_E : Pw.Env := [(10, Cb_Solve_S), (33, Rf_Ints_S)]
noncomputable def Lw_takes_C : Code := (Try.f17.body).getD .skip
noncomputable def Lw_takes_A (_Kv : VW) : Pw.A :=
  (A.seq (A.reg (Pw.rn 2 RA.done))
   (A.seq (A.reg (Pw.rn 8 RA.done))
   (A.seq (A.reg (Pw.rn 3 (RA.spl 16 (Pw.rn 6 (RA.spl 22 (Pw.rn 6 (RA.spl 28 (Pw.rn 6 RA.done) (Pw.sk 4 (Pw.rn 2 RA.done)))) (Pw.sk 4 (Pw.rn 2 (Pw.sk 4 (Pw.rn 2 RA.done)))))) (Pw.sk 4 (Pw.rn 2 (Pw.sk 4 (Pw.rn 2 (Pw.sk 4 (Pw.rn 2 RA.done)))))))))
   A.leaf)))
noncomputable def Lw_takes_O (Kv : VW) : List Ob := (obs Try.prog Lw_takes_E 34 (Lw_takes_A Kv) Lw_takes_C (fun _ => retQ Try.prog Try.f17.results Kv))
theorem Lw_takes_e (Kv : VW) (p_0_0p : Option Addr) (p_0_0l p_0_0c : Nat) (p_0_1p : Option Addr) (p_0_1l p_0_1c : Nat) (p_0_2p : Option Addr) (p_0_2l p_0_2c : Nat) (p_0_3 p_0_4 : Int) (want_1p : Option Addr) (want_1l want_1c : Nat) (points_2 : Int) (w : World) : Lw_takes_sd ⟨p_0_0p, p_0_0l, p_0_0c⟩ ⟨p_0_1p, p_0_1l, p_0_1c⟩ ⟨p_0_2p, p_0_2l, p_0_2c⟩ p_0_3 p_0_4 ⟨want_1p, want_1l, want_1c⟩ points_2 (fun r0 w' => Kv (Value.bool r0) w') w = W Try.prog Lw_takes_E 34 (Lw_takes_A Kv) Lw_takes_C [] (retQ Try.prog Try.f17.results Kv) [] (startS [(Value.agg #[(Value.slice p_0_0p p_0_0l p_0_0c), (Value.slice p_0_1p p_0_1l p_0_1c), (Value.slice p_0_2p p_0_2l p_0_2c), (Value.int .i64 p_0_3), (Value.int .i64 p_0_4)]), (Value.slice want_1p want_1l want_1c), (Value.int .i64 points_2)]) w := by kernel_rfl
theorem Lw_takes_n (Kv : VW) : obAt (Lw_takes_O Kv) 0 = none := by kernel_rfl
theorem Lw_takes_h (Kv : VW) : ∀ k, holdsAt Try.prog Lw_takes_E 34 (Lw_takes_O Kv) k := fun _ => holdsAt_ge (Lw_takes_n Kv) (Nat.zero_le _)
theorem Lw_takes_ok : Sound Try.prog 17 Lw_takes_S := ⟨Try.call17, fun vs w Kv h => by
  unfold Lw_takes_S at h
  split at h
  · have h := h.out
    rw [Lw_takes_e] at h
    exact calls_sound (Γ := Lw_takes_E) progMixed ⟨.inl Cb_Solve_ok, .inl Rf_Ints_ok, trivial⟩ Try.func17 (code := Lw_takes_C) (by kernel_rfl) (Lw_takes_A Kv) Kv (holds_all (Lw_takes_h Kv)) (Nat.le_of_ble_eq_true (by kernel_rfl)) h
  · exact h.elim⟩
/-! Lw_sanity -/
def Lw_sanity_k1d (one_1 two_2 : Bool) (K : Bool -> World -> Prop) (w : World) : Prop :=
  Lw_example_sh (18 : Int) (0 : Int) (1 : Int) (fun r27_0 r27_1 r27_2 r27_3 r27_4 w26 => let w28 := w26.alloc (Obj.cells #[(Value.int .i64 0), (Value.int .i64 2)] 3)
  Cb_Paid_sh r27_0 r27_1 r27_2 r27_3 r27_4 (Sl.mk (some (Addr.mk w26.heap.size 0 none)) 2 2) (fun r30 r31 w29 => cnd one_1
    (cnd two_2
    (cnd (r30 == (18 : Int))
    (K r31 w29)
    (K false w29))
    (K false w29))
    (K false w29)) w28) w
structure Lw_sanity_k1 (one_1 two_2 : Bool) (K : Bool -> World -> Prop) (w : World) : Prop where
  out : Lw_sanity_k1d one_1 two_2 K w
def Lw_sanity_k0d (one_1 : Bool) (K : Bool -> World -> Prop) (w : World) : Prop :=
  Lw_example_sh (19 : Int) (1 : Int) (0 : Int) (fun r17_0 r17_1 r17_2 r17_3 r17_4 w16 => let w18 := w16.alloc (Obj.cells #[(Value.int .i64 1), (Value.int .i64 2)] 3)
  Lw_takes_sh r17_0 r17_1 r17_2 r17_3 r17_4 (Sl.mk (some (Addr.mk w16.heap.size 0 none)) 2 2) (13 : Int) (fun r20 w19 => cnd r20
    (Lw_example_sh (6 : Int) (0 : Int) (0 : Int) (fun r22_0 r22_1 r22_2 r22_3 r22_4 w21 => let w23 := w21.alloc (Obj.cells #[(Value.int .i64 (-1)), (Value.int .i64 (-1))] 3)
  Lw_takes_sh r22_0 r22_1 r22_2 r22_3 r22_4 (Sl.mk (some (Addr.mk w21.heap.size 0 none)) 2 2) (0 : Int) (fun r25 w24 => Lw_sanity_k1 one_1 r25 K w24) w23) w19)
    (Lw_sanity_k1 one_1 false K w19)) w18) w
structure Lw_sanity_k0 (one_1 : Bool) (K : Bool -> World -> Prop) (w : World) : Prop where
  out : Lw_sanity_k0d one_1 K w
def Lw_sanity_sd (K : Bool -> World -> Prop) (w : World) : Prop :=
  Lw_example_sh (19 : Int) (0 : Int) (0 : Int) (fun r2_0 r2_1 r2_2 r2_3 r2_4 w1 => let w3 := w1.alloc (Obj.cells #[(Value.int .i64 0), (Value.int .i64 2)] 3)
  Lw_takes_sh r2_0 r2_1 r2_2 r2_3 r2_4 (Sl.mk (some (Addr.mk w1.heap.size 0 none)) 2 2) (15 : Int) (fun r5 w4 => cnd r5
    (Lw_example_sh (18 : Int) (0 : Int) (0 : Int) (fun r7_0 r7_1 r7_2 r7_3 r7_4 w6 => let w8 := w6.alloc (Obj.cells #[(Value.int .i64 1), (Value.int .i64 2)] 3)
  Lw_takes_sh r7_0 r7_1 r7_2 r7_3 r7_4 (Sl.mk (some (Addr.mk w6.heap.size 0 none)) 2 2) (13 : Int) (fun r10 w9 => cnd r10
    (Lw_example_sh (18 : Int) (0 : Int) (1 : Int) (fun r12_0 r12_1 r12_2 r12_3 r12_4 w11 => let w13 := w11.alloc (Obj.cells #[(Value.int .i64 0), (Value.int .i64 2)] 3)
  Lw_takes_sh r12_0 r12_1 r12_2 r12_3 r12_4 (Sl.mk (some (Addr.mk w11.heap.size 0 none)) 2 2) (15 : Int) (fun r15 w14 => Lw_sanity_k0 r15 K w14) w13) w9)
    (Lw_sanity_k0 false K w9)) w8) w4)
    (Lw_sanity_k0 false K w4)) w3) w
structure Lw_sanity_sh (K : Bool -> World -> Prop) (w : World) : Prop where
  out : Lw_sanity_sd K w
def Lw_sanity_P0 (Kv : VW) (ρ : Rho) (vs : List Value) (w : World) : Prop :=
  match ρ, vs with
  | _, [.bool one_1] => Lw_sanity_k0 one_1 (fun r0 w' => Kv (Value.bool r0) w') w
  | _, _ => False
def Lw_sanity_P1 (Kv : VW) (ρ : Rho) (vs : List Value) (w : World) : Prop :=
  match ρ, vs with
  | _, [.bool one_1, .bool two_2] => Lw_sanity_k1 one_1 two_2 (fun r0 w' => Kv (Value.bool r0) w') w
  | _, _ => False
noncomputable def Lw_sanity_S : Pw.Spec := fun vs w Kv =>
  match vs with
  | [] => Lw_sanity_sh (fun r0 w' => Kv (Value.bool r0) w') w
  | _ => False
noncomputable def Lw_sanity_E : Pw.Env := [(15, Cb_Paid_S), (17, Lw_takes_S), (18, Lw_example_S)]
noncomputable def Lw_sanity_C : Code := (Try.f7.body).getD .skip
noncomputable def Lw_sanity_A (Kv : VW) : Pw.A :=
  (A.seq (A.reg (RA.run RA.done))
   (A.seq (A.reg (Pw.rn 4 (RA.spl 8 (Pw.rn 5 (RA.spl 13 (Pw.rn 5 RA.done) (Pw.sk 3 (Pw.rn 2 RA.done)))) (Pw.sk 3 (Pw.rn 2 (Pw.sk 3 (Pw.rn 2 RA.done)))))))
   (A.cut [1] (Lw_sanity_P0 Kv) (A.seq (A.reg (Pw.rn 4 (RA.spl 21 (Pw.rn 5 RA.done) (Pw.sk 3 (Pw.rn 2 RA.done)))))
   (A.cut [1, 2] (Lw_sanity_P1 Kv) (A.seq (A.reg (Pw.rn 8 RA.done))
   (A.seq (A.reg (Pw.rn 2 (RA.spl 33 (Pw.rn 3 (RA.spl 36 (Pw.rn 4 (RA.spl 40 (Pw.rn 3 RA.done) (RA.skp (Pw.rn 2 RA.done)))) (Pw.sk 2 (Pw.rn 2 (RA.skp (Pw.rn 2 RA.done)))))) (RA.skp (Pw.rn 2 (Pw.sk 2 (Pw.rn 2 (RA.skp (Pw.rn 2 RA.done)))))))))
   A.leaf)))))))
noncomputable def Lw_sanity_O (Kv : VW) : List Ob := (obs Try.prog Lw_sanity_E 43 (Lw_sanity_A Kv) Lw_sanity_C (fun _ => retQ Try.prog Try.f7.results Kv))
theorem Lw_sanity_e (Kv : VW) (w : World) : Lw_sanity_sd (fun r0 w' => Kv (Value.bool r0) w') w = W Try.prog Lw_sanity_E 43 (Lw_sanity_A Kv) Lw_sanity_C [] (retQ Try.prog Try.f7.results Kv) [] (startS []) w := by kernel_rfl
theorem Lw_sanity_e0 (Kv : VW) (ρ : Rho) (one_1 : Bool) (w : World) : Lw_sanity_k0d one_1 (fun r0 w' => Kv (Value.bool r0) w') w = goalAt Try.prog Lw_sanity_E 43 (Lw_sanity_O Kv) 0 (ρ) [(Value.bool one_1)] w := by kernel_rfl
theorem Lw_sanity_q0 (Kv : VW) (ρ : Rho) (vs : List Value) (w : World) : labAt (Lw_sanity_O Kv) 0 ρ vs w = Lw_sanity_P0 Kv ρ vs w := by kernel_rfl
theorem Lw_sanity_h0 (Kv : VW) : holdsAt Try.prog Lw_sanity_E 43 (Lw_sanity_O Kv) 0 := holdsAt_cut (.inl (by kernel_rfl)) (fun ρ vs w h => by
  rw [Lw_sanity_q0] at h
  unfold Lw_sanity_P0 at h
  split at h
  · rw [← Lw_sanity_e0]; exact h.out
  · exact h.elim)
theorem Lw_sanity_e1 (Kv : VW) (ρ : Rho) (one_1 two_2 : Bool) (w : World) : Lw_sanity_k1d one_1 two_2 (fun r0 w' => Kv (Value.bool r0) w') w = goalAt Try.prog Lw_sanity_E 43 (Lw_sanity_O Kv) 1 (ρ) [(Value.bool one_1), (Value.bool two_2)] w := by kernel_rfl
theorem Lw_sanity_q1 (Kv : VW) (ρ : Rho) (vs : List Value) (w : World) : labAt (Lw_sanity_O Kv) 1 ρ vs w = Lw_sanity_P1 Kv ρ vs w := by kernel_rfl
theorem Lw_sanity_h1 (Kv : VW) : holdsAt Try.prog Lw_sanity_E 43 (Lw_sanity_O Kv) 1 := holdsAt_cut (.inl (by kernel_rfl)) (fun ρ vs w h => by
  rw [Lw_sanity_q1] at h
  unfold Lw_sanity_P1 at h
  split at h
  · rw [← Lw_sanity_e1]; exact h.out
  · exact h.elim)
theorem Lw_sanity_n (Kv : VW) : obAt (Lw_sanity_O Kv) 2 = none := by kernel_rfl
theorem Lw_sanity_h (Kv : VW) : ∀ k, holdsAt Try.prog Lw_sanity_E 43 (Lw_sanity_O Kv) k := fun k => match k with
  | 0 => Lw_sanity_h0 Kv
  | 1 => Lw_sanity_h1 Kv
  | _k + 2 => holdsAt_ge (Lw_sanity_n Kv) (Nat.le_add_left _ _)
theorem Lw_sanity_ok : Sound Try.prog 7 Lw_sanity_S := ⟨Try.call7, fun vs w Kv h => by
  unfold Lw_sanity_S at h
  split at h
  · have h := h.out
    rw [Lw_sanity_e] at h
    exact calls_sound (Γ := Lw_sanity_E) progMixed ⟨.inl Cb_Paid_ok, .inl Lw_takes_ok, .inl Lw_example_ok, trivial⟩ Try.func7 (code := Lw_sanity_C) (by kernel_rfl) (Lw_sanity_A Kv) Kv (holds_all (Lw_sanity_h Kv)) (Nat.le_of_ble_eq_true (by kernel_rfl)) h
  · exact h.elim⟩
/-! Lw_CombineLocal -/
def Lw_CombineLocal_b4 (up_3 : Bool) (p_4 r_5 : Addr) (i_7 k_8 : Int) (a_9 b_10 : Int) (N4 : Bool -> Addr -> Addr -> Int -> Int -> Int -> Int -> World -> Prop) (N3 : Bool -> Addr -> Addr -> Int -> Int -> Int -> World -> Prop) (_N2 : Bool -> Addr -> Addr -> Int -> Int -> World -> Prop) (_N1 : Bool -> Addr -> Addr -> Int -> World -> Prop) (K : Bool -> World -> Prop) (w : World) : Prop :=
  ∃ x42 : Sl, w.cell? (p_4.add 1) = some (Value.slice x42.p x42.l x42.c) /\ cnd (decide (b_10 < (x42.l : Int)))
    (let w43 := w.alloc (Obj.cells #[] 3)
  ∃ x44 : Sl, w43.cell? r_5 = some (Value.slice x44.p x44.l x44.c) /\ apS 1 8 [(Value.int .i64 0)] 3 (Sl.mk (some (Addr.mk w.heap.size 0 none)) 0 0) x44 w43 fun s45 w46 => nz s45.p fun a47 => (0 <= i_7 /\ i_7 < (s45.l : Nat)) /\ wrOk w46 (a47.add (i_7.toNat * 1)) /\ 
  (let w48 := w46.setCell (a47.add (i_7.toNat * 1)) (Value.int .i64 a_9)
  nz s45.p fun a49 => (0 <= k_8 /\ k_8 < (s45.l : Nat)) /\ wrOk w48 (a49.add (k_8.toNat * 1)) /\ 
  (let w50 := w48.setCell (a49.add (k_8.toNat * 1)) (Value.int .i64 b_10)
  ∃ x51 : Sl, w50.cell? p_4 = some (Value.slice x51.p x51.l x51.c) /\ ∃ x52 : Sl, w50.cell? (p_4.add 1) = some (Value.slice x52.p x52.l x52.c) /\ ∃ x53 : Sl, w50.cell? (p_4.add 2) = some (Value.slice x53.p x53.l x53.c) /\ ∃ x54 : Int, w50.cell? (p_4.add 3) = some (Value.int .i64 x54) /\ ∃ x55 : Int, w50.cell? (p_4.add 4) = some (Value.int .i64 x55) /\ ∃ x56 : Sl, w50.cell? r_5 = some (Value.slice x56.p x56.l x56.c) /\ Cb_Better_sh x51 x52 x53 x54 x55 s45 x56 (fun r58 w57 => cnd r58
    (K false w57)
    (inR .i64 (b_10 + (1 : Int)) /\ N4 up_3 p_4 r_5 i_7 k_8 a_9 (b_10 + (1 : Int)) w57)) w50)))
    (inR .i64 (a_9 + (1 : Int)) /\ N3 up_3 p_4 r_5 i_7 k_8 (a_9 + (1 : Int)) w)
def Lw_CombineLocal_l4d (up_3 : Bool) (p_4 r_5 : Addr) (i_7 k_8 : Int) (a_9 b_10 : Int) (N3 : Bool -> Addr -> Addr -> Int -> Int -> Int -> World -> Prop) (N2 : Bool -> Addr -> Addr -> Int -> Int -> World -> Prop) (N1 : Bool -> Addr -> Addr -> Int -> World -> Prop) (K : Bool -> World -> Prop) (w : World) : Prop :=
  ∃ (I : Int -> World -> Prop) (μ : Int -> World -> Nat), I b_10 w /\ ∀ (b_101 : Int) (w1 : World), I b_101 w1 ->
    Lw_CombineLocal_b4 up_3 p_4 r_5 i_7 k_8 a_9 b_101 (fun up_3' p_4' r_5' i_7' k_8' a_9' b_10' w' => ((up_3' = up_3 /\ p_4' = p_4 /\ r_5' = r_5 /\ i_7' = i_7 /\ k_8' = k_8 /\ a_9' = a_9 /\ True) /\ I b_10' w') /\ μ b_10' w' < μ b_101 w1) N3 N2 N1 K w1
structure Lw_CombineLocal_l4 (up_3 : Bool) (p_4 r_5 : Addr) (i_7 k_8 : Int) (a_9 b_10 : Int) (N3 : Bool -> Addr -> Addr -> Int -> Int -> Int -> World -> Prop) (N2 : Bool -> Addr -> Addr -> Int -> Int -> World -> Prop) (N1 : Bool -> Addr -> Addr -> Int -> World -> Prop) (K : Bool -> World -> Prop) (w : World) : Prop where
  out : Lw_CombineLocal_l4d up_3 p_4 r_5 i_7 k_8 a_9 b_10 N3 N2 N1 K w
def Lw_CombineLocal_b3 (up_3 : Bool) (p_4 r_5 : Addr) (i_7 k_8 a_9 : Int) (N3 : Bool -> Addr -> Addr -> Int -> Int -> Int -> World -> Prop) (N2 : Bool -> Addr -> Addr -> Int -> Int -> World -> Prop) (N1 : Bool -> Addr -> Addr -> Int -> World -> Prop) (K : Bool -> World -> Prop) (w : World) : Prop :=
  ∃ x41 : Sl, w.cell? (p_4.add 1) = some (Value.slice x41.p x41.l x41.c) /\ cnd (decide (a_9 < (x41.l : Int)))
    (Lw_CombineLocal_l4 up_3 p_4 r_5 i_7 k_8 a_9 (-1 : Int) N3 N2 N1 K w)
    (inR .i64 (k_8 + (1 : Int)) /\ N2 up_3 p_4 r_5 i_7 (k_8 + (1 : Int)) w)
def Lw_CombineLocal_l3d (up_3 : Bool) (p_4 r_5 : Addr) (i_7 k_8 a_9 : Int) (N2 : Bool -> Addr -> Addr -> Int -> Int -> World -> Prop) (N1 : Bool -> Addr -> Addr -> Int -> World -> Prop) (K : Bool -> World -> Prop) (w : World) : Prop :=
  ∃ (I : Int -> World -> Prop) (μ : Int -> World -> Nat), I a_9 w /\ ∀ (a_91 : Int) (w1 : World), I a_91 w1 ->
    Lw_CombineLocal_b3 up_3 p_4 r_5 i_7 k_8 a_91 (fun up_3' p_4' r_5' i_7' k_8' a_9' w' => ((up_3' = up_3 /\ p_4' = p_4 /\ r_5' = r_5 /\ i_7' = i_7 /\ k_8' = k_8 /\ True) /\ I a_9' w') /\ μ a_9' w' < μ a_91 w1) N2 N1 K w1
structure Lw_CombineLocal_l3 (up_3 : Bool) (p_4 r_5 : Addr) (i_7 k_8 a_9 : Int) (N2 : Bool -> Addr -> Addr -> Int -> Int -> World -> Prop) (N1 : Bool -> Addr -> Addr -> Int -> World -> Prop) (K : Bool -> World -> Prop) (w : World) : Prop where
  out : Lw_CombineLocal_l3d up_3 p_4 r_5 i_7 k_8 a_9 N2 N1 K w
def Lw_CombineLocal_b2 (up_3 : Bool) (p_4 r_5 : Addr) (i_7 k_8 : Int) (N2 : Bool -> Addr -> Addr -> Int -> Int -> World -> Prop) (N1 : Bool -> Addr -> Addr -> Int -> World -> Prop) (K : Bool -> World -> Prop) (w : World) : Prop :=
  cnd (decide (k_8 <= i_7))
    (Lw_CombineLocal_l3 up_3 p_4 r_5 i_7 k_8 (-1 : Int) N2 N1 K w)
    (inR .i64 (i_7 + (1 : Int)) /\ N1 up_3 p_4 r_5 (i_7 + (1 : Int)) w)
def Lw_CombineLocal_l2d (up_3 : Bool) (p_4 r_5 : Addr) (i_7 k_8 : Int) (N1 : Bool -> Addr -> Addr -> Int -> World -> Prop) (K : Bool -> World -> Prop) (w : World) : Prop :=
  ∃ (I : Int -> World -> Prop) (μ : Int -> World -> Nat), I k_8 w /\ ∀ (k_81 : Int) (w1 : World), I k_81 w1 ->
    Lw_CombineLocal_b2 up_3 p_4 r_5 i_7 k_81 (fun up_3' p_4' r_5' i_7' k_8' w' => ((up_3' = up_3 /\ p_4' = p_4 /\ r_5' = r_5 /\ i_7' = i_7 /\ True) /\ I k_8' w') /\ μ k_8' w' < μ k_81 w1) N1 K w1
structure Lw_CombineLocal_l2 (up_3 : Bool) (p_4 r_5 : Addr) (i_7 k_8 : Int) (N1 : Bool -> Addr -> Addr -> Int -> World -> Prop) (K : Bool -> World -> Prop) (w : World) : Prop where
  out : Lw_CombineLocal_l2d up_3 p_4 r_5 i_7 k_8 N1 K w
def Lw_CombineLocal_b1 (up_3 : Bool) (p_4 r_5 : Addr) (i_7 : Int) (N1 : Bool -> Addr -> Addr -> Int -> World -> Prop) (K : Bool -> World -> Prop) (w : World) : Prop :=
  ∃ x40 : Sl, w.cell? p_4 = some (Value.slice x40.p x40.l x40.c) /\ cnd (decide (i_7 < (x40.l : Int)))
    (Lw_CombineLocal_l2 up_3 p_4 r_5 i_7 (0 : Int) N1 K w)
    (∃ x59 : Sl, w.cell? p_4 = some (Value.slice x59.p x59.l x59.c) /\ ∃ x60 : Sl, w.cell? (p_4.add 1) = some (Value.slice x60.p x60.l x60.c) /\ ∃ x61 : Sl, w.cell? (p_4.add 2) = some (Value.slice x61.p x61.l x61.c) /\ ∃ x62 : Int, w.cell? (p_4.add 3) = some (Value.int .i64 x62) /\ ∃ x63 : Int, w.cell? (p_4.add 4) = some (Value.int .i64 x63) /\ ∃ x64 : Sl, w.cell? r_5 = some (Value.slice x64.p x64.l x64.c) /\ Cb_Paid_sh x59 x60 x61 x62 x63 x64 (fun r66 r67 w65 => let w68 := w65.drew
  ∃ S69 : World -> Prop, S69 w68 /\ cnd up_3
    (cnd r67
    (∃ x70 : Int, (∀ w' : World, S69 w' -> w'.cell? (p_4.add 4) = some (Value.int .i64 x70)) /\ cnd (decide (r66 <= x70))
    (∃ x71 : Sl, (∀ w' : World, S69 w' -> w'.cell? p_4 = some (Value.slice x71.p x71.l x71.c)) /\ ∃ x72 : Sl, (∀ w' : World, S69 w' -> w'.cell? (p_4.add 1) = some (Value.slice x72.p x72.l x72.c)) /\ ∃ x73 : Sl, (∀ w' : World, S69 w' -> w'.cell? (p_4.add 2) = some (Value.slice x73.p x73.l x73.c)) /\ ∃ x74 : Int, (∀ w' : World, S69 w' -> w'.cell? (p_4.add 3) = some (Value.int .i64 x74)) /\ ∃ x75 : Int, (∀ w' : World, S69 w' -> w'.cell? (p_4.add 4) = some (Value.int .i64 x75)) /\ ∃ x76 : Sl, (∀ w' : World, S69 w' -> w'.cell? r_5 = some (Value.slice x76.p x76.l x76.c)) /\ ∃ x77 : Int, (∀ w' : World, S69 w' -> w'.cell? (r_5.add 1) = some (Value.int .i64 x77)) /\ Cb_Points_sh x71 x72 x73 x74 x75 x76 (fun r79 w78 => S69 w78 /\ K (r79 == x77) w78) w68)
    (K false w68))
    (K false w68))
    (K false w68)) w)
def Lw_CombineLocal_l1d (up_3 : Bool) (p_4 r_5 : Addr) (i_7 : Int) (K : Bool -> World -> Prop) (w : World) : Prop :=
  ∃ (I : Int -> World -> Prop) (μ : Int -> World -> Nat), I i_7 w /\ ∀ (i_71 : Int) (w1 : World), I i_71 w1 ->
    Lw_CombineLocal_b1 up_3 p_4 r_5 i_71 (fun up_3' p_4' r_5' i_7' w' => ((up_3' = up_3 /\ p_4' = p_4 /\ r_5' = r_5 /\ True) /\ I i_7' w') /\ μ i_7' w' < μ i_71 w1) K w1
structure Lw_CombineLocal_l1 (up_3 : Bool) (p_4 r_5 : Addr) (i_7 : Int) (K : Bool -> World -> Prop) (w : World) : Prop where
  out : Lw_CombineLocal_l1d up_3 p_4 r_5 i_7 K w
def Lw_CombineLocal_k0d (up_3 : Bool) (p_4 r_5 : Addr) (e_6 : Int) (K : Bool -> World -> Prop) (w : World) : Prop :=
  cnd (e_6 != (0 : Int))
    (K false w)
    (∃ x38 : Sl, w.cell? r_5 = some (Value.slice x38.p x38.l x38.c) /\ ∃ x39 : Sl, w.cell? p_4 = some (Value.slice x39.p x39.l x39.c) /\ cnd ((x38.l : Int) != (x39.l : Int))
    (K false w)
    (Lw_CombineLocal_l1 up_3 p_4 r_5 (0 : Int) K w))
structure Lw_CombineLocal_k0 (up_3 : Bool) (p_4 r_5 : Addr) (e_6 : Int) (K : Bool -> World -> Prop) (w : World) : Prop where
  out : Lw_CombineLocal_k0d up_3 p_4 r_5 e_6 K w
def Lw_CombineLocal_sd (l_0 : Sl) (K : Bool -> World -> Prop) (w : World) : Prop :=
  Lw_sanity_sh (fun r2 w1 => Rf_Made_sh l_0 (fun r4_0 r4_1 r4_2 r4_3 r4_4 w3 => let w5 := w3.alloc (Obj.cells #[(Value.slice none 0 0), (Value.slice none 0 0), (Value.slice none 0 0), (Value.int .i64 0), (Value.int .i64 0)] 28)
  stN w5 (Addr.mk w3.heap.size 0 none) [(Value.slice r4_0.p r4_0.l r4_0.c), (Value.slice r4_1.p r4_1.l r4_1.c), (Value.slice r4_2.p r4_2.l r4_2.c), (Value.int .i64 r4_3), (Value.int .i64 r4_4)] fun w6 => let w7 := w6.drew
  ∃ S8 : World -> Prop, S8 w7 /\ ∃ x9 : Sl, (∀ w' : World, S8 w' -> w'.cell? (Addr.mk w3.heap.size 0 none) = some (Value.slice x9.p x9.l x9.c)) /\ ∃ x10 : Sl, (∀ w' : World, S8 w' -> w'.cell? (Addr.mk w3.heap.size 1 none) = some (Value.slice x10.p x10.l x10.c)) /\ ∃ x11 : Sl, (∀ w' : World, S8 w' -> w'.cell? (Addr.mk w3.heap.size 2 none) = some (Value.slice x11.p x11.l x11.c)) /\ ∃ x12 : Int, (∀ w' : World, S8 w' -> w'.cell? (Addr.mk w3.heap.size 3 none) = some (Value.int .i64 x12)) /\ ∃ x13 : Int, (∀ w' : World, S8 w' -> w'.cell? (Addr.mk w3.heap.size 4 none) = some (Value.int .i64 x13)) /\ ∃ x14 : Sl, (∀ w' : World, S8 w' -> w'.cell? (Addr.mk w3.heap.size 0 none) = some (Value.slice x14.p x14.l x14.c)) /\ ∃ x15 : Sl, (∀ w' : World, S8 w' -> w'.cell? (Addr.mk w3.heap.size 1 none) = some (Value.slice x15.p x15.l x15.c)) /\ ∃ x16 : Sl, (∀ w' : World, S8 w' -> w'.cell? (Addr.mk w3.heap.size 2 none) = some (Value.slice x16.p x16.l x16.c)) /\ ∃ x17 : Int, (∀ w' : World, S8 w' -> w'.cell? (Addr.mk w3.heap.size 3 none) = some (Value.int .i64 x17)) /\ ∃ x18 : Int, (∀ w' : World, S8 w' -> w'.cell? (Addr.mk w3.heap.size 4 none) = some (Value.int .i64 x18)) /\ (Rf_Prefixes_sh x14 x15 x16 x17 x18 (fun r20 w19 => S8 w19 /\ (Cb_Solve_sh x9 x10 x11 x12 x13 r20 (fun r22_0 r22_1 r22_2 r22_3 r23 w21 => S8 w21 /\ let w24 := w21.alloc (Obj.cells #[(Value.slice none 0 0), (Value.int .i64 0), (Value.int .i64 0), (Value.slice none 0 0)] 33)
  S8 w24 /\ stN w24 (Addr.mk w21.heap.size 0 none) [(Value.slice r22_0.p r22_0.l r22_0.c), (Value.int .i64 r22_1), (Value.int .i64 r22_2), (Value.slice r22_3.p r22_3.l r22_3.c)] fun w25 => Lw_CombineLocal_k0 r2 (Addr.mk w3.heap.size 0 none) (Addr.mk w21.heap.size 0 none) r23 K w25) w19)
    /\ (let w26 := w19.alloc (Obj.cells #[(Value.slice none 0 0), (Value.int .i64 0), (Value.int .i64 0), (Value.slice none 0 0)] 33)
  S8 w26 /\ Cb_Solve_sh x9 x10 x11 x12 x13 r20 (fun r28_0 r28_1 r28_2 r28_3 r29 w27 => S8 w27 /\ stN w27 (Addr.mk w19.heap.size 0 none) [(Value.slice r28_0.p r28_0.l r28_0.c), (Value.int .i64 r28_1), (Value.int .i64 r28_2), (Value.slice r28_3.p r28_3.l r28_3.c)] fun w30 => Lw_CombineLocal_k0 r2 (Addr.mk w3.heap.size 0 none) (Addr.mk w19.heap.size 0 none) r29 K w30) w26)) w7)
    /\ (let w31 := w7.alloc (Obj.cells #[(Value.slice none 0 0), (Value.int .i64 0), (Value.int .i64 0), (Value.slice none 0 0)] 33)
  S8 w31 /\ Rf_Prefixes_sh x14 x15 x16 x17 x18 (fun r33 w32 => S8 w32 /\ Cb_Solve_sh x9 x10 x11 x12 x13 r33 (fun r35_0 r35_1 r35_2 r35_3 r36 w34 => S8 w34 /\ stN w34 (Addr.mk w7.heap.size 0 none) [(Value.slice r35_0.p r35_0.l r35_0.c), (Value.int .i64 r35_1), (Value.int .i64 r35_2), (Value.slice r35_3.p r35_3.l r35_3.c)] fun w37 => Lw_CombineLocal_k0 r2 (Addr.mk w3.heap.size 0 none) (Addr.mk w7.heap.size 0 none) r36 K w37) w32) w31)) w1) w
structure Lw_CombineLocal_sh (l_0 : Sl) (K : Bool -> World -> Prop) (w : World) : Prop where
  out : Lw_CombineLocal_sd l_0 K w
def Lw_CombineLocal_P0 (Kv : VW) (ρ : Rho) (vs : List Value) (w : World) : Prop :=
  match ρ, vs with
  | _, [.bool up_3, .pointer (some p_4), .pointer (some r_5), .int .i64 e_6] => Lw_CombineLocal_k0 up_3 p_4 r_5 e_6 (fun r0 w' => Kv (Value.bool r0) w') w
  | _, _ => False
def Lw_CombineLocal_P1 (Kv : VW) (ρ : Rho) (vs : List Value) (w : World) : Prop :=
  match ρ, vs with
  | _, [.bool up_3, .pointer (some p_4), .pointer (some r_5), .int .i64 i_7] => Lw_CombineLocal_l1 up_3 p_4 r_5 i_7 (fun r0 w' => Kv (Value.bool r0) w') w
  | _, _ => False
def Lw_CombineLocal_P2 (Kv : VW) (ρ : Rho) (vs : List Value) (w : World) : Prop :=
  match ρ, vs with
  | N1 :: _, [.bool up_3, .pointer (some p_4), .pointer (some r_5), .int .i64 i_7, .int .i64 k_8] => Lw_CombineLocal_l2 up_3 p_4 r_5 i_7 k_8 (fun up_3' p_4' r_5' i_7' w' => N1 [(Value.bool up_3'), (Value.pointer (some p_4')), (Value.pointer (some r_5')), (Value.int .i64 i_7')] w') (fun r0 w' => Kv (Value.bool r0) w') w
  | _, _ => False
def Lw_CombineLocal_P3 (Kv : VW) (ρ : Rho) (vs : List Value) (w : World) : Prop :=
  match ρ, vs with
  | N2 :: N1 :: _, [.bool up_3, .pointer (some p_4), .pointer (some r_5), .int .i64 i_7, .int .i64 k_8, .int .i64 a_9] => Lw_CombineLocal_l3 up_3 p_4 r_5 i_7 k_8 a_9 (fun up_3' p_4' r_5' i_7' k_8' w' => N2 [(Value.bool up_3'), (Value.pointer (some p_4')), (Value.pointer (some r_5')), (Value.int .i64 i_7'), (Value.int .i64 k_8')] w') (fun up_3' p_4' r_5' i_7' w' => N1 [(Value.bool up_3'), (Value.pointer (some p_4')), (Value.pointer (some r_5')), (Value.int .i64 i_7')] w') (fun r0 w' => Kv (Value.bool r0) w') w
  | _, _ => False
def Lw_CombineLocal_P4 (Kv : VW) (ρ : Rho) (vs : List Value) (w : World) : Prop :=
  match ρ, vs with
  | N3 :: N2 :: N1 :: _, [.bool up_3, .pointer (some p_4), .pointer (some r_5), .int .i64 i_7, .int .i64 k_8, .int .i64 a_9, .int .i64 b_10] => Lw_CombineLocal_l4 up_3 p_4 r_5 i_7 k_8 a_9 b_10 (fun up_3' p_4' r_5' i_7' k_8' a_9' w' => N3 [(Value.bool up_3'), (Value.pointer (some p_4')), (Value.pointer (some r_5')), (Value.int .i64 i_7'), (Value.int .i64 k_8'), (Value.int .i64 a_9')] w') (fun up_3' p_4' r_5' i_7' k_8' w' => N2 [(Value.bool up_3'), (Value.pointer (some p_4')), (Value.pointer (some r_5')), (Value.int .i64 i_7'), (Value.int .i64 k_8')] w') (fun up_3' p_4' r_5' i_7' w' => N1 [(Value.bool up_3'), (Value.pointer (some p_4')), (Value.pointer (some r_5')), (Value.int .i64 i_7')] w') (fun r0 w' => Kv (Value.bool r0) w') w
  | _, _ => False
noncomputable def Lw_CombineLocal_S : Pw.Spec := fun vs w Kv =>
  match vs with
  | [.slice l_0p l_0l l_0c] => Lw_CombineLocal_sh ⟨l_0p, l_0l, l_0c⟩ (fun r0 w' => Kv (Value.bool r0) w') w
  | _ => False
noncomputable def Lw_CombineLocal_E : Pw.Env := [(7, Lw_sanity_S), (8, Rf_Made_S), (9, Rf_Prefixes_S), (10, Cb_Solve_S), (14, Cb_Better_S), (15, Cb_Paid_S), (16, Cb_Points_S)]
noncomputable def Lw_CombineLocal_C : Code := (Try.f6.body).getD .skip
noncomputable def Lw_CombineLocal_A (Kv : VW) : Pw.A :=
  (A.seq (A.reg (RA.run RA.done))
   (A.seq (A.reg (Pw.rn 2 RA.done))
   (A.seq (A.reg (Pw.rn 4 RA.done))
   (A.seq (A.drw (DA.pur 0 (DA.pur 1 (DA.two 2 (DA.two 3 (DA.pur 4 (DA.pur 5 (DA.pur 6 (DA.eff 7 (DA.eff 8 (DA.pur 9 DA.done)))))) 7 (DA.eff 3 (DA.pur 4 (DA.pur 5 (DA.pur 6 (DA.eff 8 (DA.pur 9 DA.done))))))) 7 (DA.eff 2 (DA.eff 3 (DA.pur 4 (DA.pur 5 (DA.pur 6 (DA.eff 8 (DA.pur 9 DA.done)))))))))))
   (A.cut [3, 4, 5, 6] (Lw_CombineLocal_P0 Kv) (A.seq (A.seq (A.reg (Pw.rn 3 (RA.spl 26 (Pw.sk 7 (RA.run RA.done)) (Pw.rn 8 RA.done))))
   (A.cond (A.seq (A.reg (RA.run RA.done))
   A.leaf)
   A.leaf))
   (A.seq (A.seq (A.reg (RA.run RA.done))
   (A.blk (A.loop [3, 4, 5, 7] (Lw_CombineLocal_P1 Kv) (A.seq (A.seq (A.reg (Pw.rn 5 RA.done))
   (A.cond A.leaf
   A.leaf))
   (A.seq (A.blk (A.seq (A.reg (RA.run RA.done))
   (A.blk (A.loop [3, 4, 5, 7, 8] (Lw_CombineLocal_P2 Kv) (A.seq (A.seq (A.reg (Pw.rn 3 RA.done))
   (A.cond A.leaf
   A.leaf))
   (A.seq (A.blk (A.seq (A.reg (RA.run RA.done))
   (A.blk (A.loop [3, 4, 5, 7, 8, 9] (Lw_CombineLocal_P3 Kv) (A.seq (A.seq (A.reg (Pw.rn 5 RA.done))
   (A.cond A.leaf
   A.leaf))
   (A.seq (A.blk (A.seq (A.reg (RA.run RA.done))
   (A.blk (A.loop [3, 4, 5, 7, 8, 9, 10] (Lw_CombineLocal_P4 Kv) (A.seq (A.seq (A.reg (Pw.rn 5 RA.done))
   (A.cond A.leaf
   A.leaf))
   (A.seq (A.blk (A.seq (A.reg (Pw.rn 5 RA.done))
   (A.seq (A.reg (Pw.rn 5 RA.done))
   (A.seq (A.reg (Pw.rn 5 RA.done))
   (A.seq (A.reg (Pw.rn 5 RA.done))
   (A.cond (A.seq (A.reg (RA.run RA.done))
   A.leaf)
   A.leaf))))))
   (A.reg (Pw.rn 3 RA.done))))))))
   (A.reg (Pw.rn 3 RA.done))))))))
   (A.reg (Pw.rn 3 RA.done))))))))
   (A.reg (Pw.rn 3 RA.done)))))))
   (A.seq (A.reg (Pw.rn 9 RA.done))
   (A.seq (A.drw (DA.pur 0 (DA.pur 1 (DA.spl 86 (DA.pur 2 (DA.pur 3 (DA.pur 4 (DA.spl 89 (DA.pur 5 (DA.pur 6 (DA.pur 7 (DA.pur 8 (DA.pur 9 (DA.pur 10 (DA.spl 95 (DA.pur 11 (DA.pur 12 (DA.pur 13 (DA.pur 15 (DA.pur 16 (DA.eff 14 (DA.pur 17 (DA.pur 18 (DA.pur 19 DA.done))))))))) (DA.skp 11 (DA.skp 12 (DA.skp 13 (DA.skp 15 (DA.skp 16 (DA.skp 14 (DA.skp 17 (DA.pur 18 (DA.pur 19 DA.done)))))))))))))))) (DA.skp 5 (DA.skp 6 (DA.skp 7 (DA.skp 8 (DA.pur 9 (DA.pur 10 (DA.skp 11 (DA.skp 12 (DA.skp 13 (DA.skp 15 (DA.skp 16 (DA.skp 14 (DA.skp 17 (DA.pur 18 (DA.pur 19 DA.done))))))))))))))))))) (DA.skp 2 (DA.pur 3 (DA.pur 4 (DA.skp 5 (DA.skp 6 (DA.skp 7 (DA.skp 8 (DA.pur 9 (DA.pur 10 (DA.skp 11 (DA.skp 12 (DA.skp 13 (DA.skp 15 (DA.skp 16 (DA.skp 14 (DA.skp 17 (DA.pur 18 (DA.pur 19 DA.done))))))))))))))))))))))
   A.leaf)))))))))
noncomputable def Lw_CombineLocal_O (Kv : VW) : List Ob := (obs Try.prog Lw_CombineLocal_E 104 (Lw_CombineLocal_A Kv) Lw_CombineLocal_C (fun _ => retQ Try.prog Try.f6.results Kv))
theorem Lw_CombineLocal_e (Kv : VW) (l_0p : Option Addr) (l_0l l_0c : Nat) (w : World) : Lw_CombineLocal_sd ⟨l_0p, l_0l, l_0c⟩ (fun r0 w' => Kv (Value.bool r0) w') w = W Try.prog Lw_CombineLocal_E 104 (Lw_CombineLocal_A Kv) Lw_CombineLocal_C [] (retQ Try.prog Try.f6.results Kv) [] (startS [(Value.slice l_0p l_0l l_0c)]) w := by kernel_rfl
theorem Lw_CombineLocal_e0 (Kv : VW) (ρ : Rho) (up_3 : Bool) (p_4 r_5 : Addr) (e_6 : Int) (w : World) : Lw_CombineLocal_k0d up_3 p_4 r_5 e_6 (fun r0 w' => Kv (Value.bool r0) w') w = goalAt Try.prog Lw_CombineLocal_E 104 (Lw_CombineLocal_O Kv) 0 (ρ) [(Value.bool up_3), (Value.pointer (some p_4)), (Value.pointer (some r_5)), (Value.int .i64 e_6)] w := by kernel_rfl
theorem Lw_CombineLocal_q0 (Kv : VW) (ρ : Rho) (vs : List Value) (w : World) : labAt (Lw_CombineLocal_O Kv) 0 ρ vs w = Lw_CombineLocal_P0 Kv ρ vs w := by kernel_rfl
theorem Lw_CombineLocal_h0 (Kv : VW) : holdsAt Try.prog Lw_CombineLocal_E 104 (Lw_CombineLocal_O Kv) 0 := holdsAt_cut (.inl (by kernel_rfl)) (fun ρ vs w h => by
  rw [Lw_CombineLocal_q0] at h
  unfold Lw_CombineLocal_P0 at h
  split at h
  · rw [← Lw_CombineLocal_e0]; exact h.out
  · exact h.elim)
theorem Lw_CombineLocal_e1 (Kv : VW) (N1 : List Value -> World -> Prop) (ρ : Rho) (up_3 : Bool) (p_4 r_5 : Addr) (i_7 : Int) (w : World) : Lw_CombineLocal_b1 up_3 p_4 r_5 i_7 (fun up_3' p_4' r_5' i_7' w' => N1 [(Value.bool up_3'), (Value.pointer (some p_4')), (Value.pointer (some r_5')), (Value.int .i64 i_7')] w') (fun r0 w' => Kv (Value.bool r0) w') w = goalAt Try.prog Lw_CombineLocal_E 104 (Lw_CombineLocal_O Kv) 1 (N1 :: ρ) [(Value.bool up_3), (Value.pointer (some p_4)), (Value.pointer (some r_5)), (Value.int .i64 i_7)] w := by kernel_rfl
theorem Lw_CombineLocal_q1 (Kv : VW) (ρ : Rho) (vs : List Value) (w : World) : labAt (Lw_CombineLocal_O Kv) 1 ρ vs w = Lw_CombineLocal_P1 Kv ρ vs w := by kernel_rfl
def Lw_CombineLocal_I1 (up_30 : Bool) (p_40 r_50 : Addr) (I : Int -> World -> Prop) (vs : List Value) (w : World) : Prop :=
  match vs with
  | [.bool up_3, .pointer (some p_4), .pointer (some r_5), .int .i64 i_7] => (up_3 = up_30 /\ p_4 = p_40 /\ r_5 = r_50 /\ True) /\ I i_7 w
  | _ => False
def Lw_CombineLocal_M1 (μ : Int -> World -> Nat) (vs : List Value) (w : World) : Nat :=
  match vs with
  | [.bool _up_3, .pointer (some _p_4), .pointer (some _r_5), .int .i64 i_7] => μ i_7 w
  | _ => 0
theorem Lw_CombineLocal_h1 (Kv : VW) : holdsAt Try.prog Lw_CombineLocal_E 104 (Lw_CombineLocal_O Kv) 1 := holdsAt_loop (by kernel_rfl) (fun ρ vs w h => by
  rw [Lw_CombineLocal_q1] at h
  unfold Lw_CombineLocal_P1 at h
  split at h
  · rename_i ρt up_3 p_4 r_5 i_7
    obtain ⟨I, μ, h0, hr⟩ := h.out
    refine ⟨Lw_CombineLocal_I1 up_3 p_4 r_5 I, Lw_CombineLocal_M1 μ, ⟨⟨rfl, rfl, rfl, trivial⟩, h0⟩, fun vs w hI => ?_⟩
    unfold Lw_CombineLocal_I1 at hI
    split at hI
    · obtain ⟨⟨h0, h1, h2, _⟩, hI⟩ := hI
      cases h0; cases h1; cases h2
      rw [← Lw_CombineLocal_e1]
      exact hr _ _ hI
    · exact hI.elim
  · exact h.elim)
theorem Lw_CombineLocal_e2 (Kv : VW) (N2 N1 : List Value -> World -> Prop) (ρ : Rho) (up_3 : Bool) (p_4 r_5 : Addr) (i_7 k_8 : Int) (w : World) : Lw_CombineLocal_b2 up_3 p_4 r_5 i_7 k_8 (fun up_3' p_4' r_5' i_7' k_8' w' => N2 [(Value.bool up_3'), (Value.pointer (some p_4')), (Value.pointer (some r_5')), (Value.int .i64 i_7'), (Value.int .i64 k_8')] w') (fun up_3' p_4' r_5' i_7' w' => N1 [(Value.bool up_3'), (Value.pointer (some p_4')), (Value.pointer (some r_5')), (Value.int .i64 i_7')] w') (fun r0 w' => Kv (Value.bool r0) w') w = goalAt Try.prog Lw_CombineLocal_E 104 (Lw_CombineLocal_O Kv) 2 (N2 :: N1 :: ρ) [(Value.bool up_3), (Value.pointer (some p_4)), (Value.pointer (some r_5)), (Value.int .i64 i_7), (Value.int .i64 k_8)] w := by kernel_rfl
theorem Lw_CombineLocal_q2 (Kv : VW) (ρ : Rho) (vs : List Value) (w : World) : labAt (Lw_CombineLocal_O Kv) 2 ρ vs w = Lw_CombineLocal_P2 Kv ρ vs w := by kernel_rfl
def Lw_CombineLocal_I2 (up_30 : Bool) (p_40 r_50 : Addr) (i_70 : Int) (I : Int -> World -> Prop) (vs : List Value) (w : World) : Prop :=
  match vs with
  | [.bool up_3, .pointer (some p_4), .pointer (some r_5), .int .i64 i_7, .int .i64 k_8] => (up_3 = up_30 /\ p_4 = p_40 /\ r_5 = r_50 /\ i_7 = i_70 /\ True) /\ I k_8 w
  | _ => False
def Lw_CombineLocal_M2 (μ : Int -> World -> Nat) (vs : List Value) (w : World) : Nat :=
  match vs with
  | [.bool _up_3, .pointer (some _p_4), .pointer (some _r_5), .int .i64 _i_7, .int .i64 k_8] => μ k_8 w
  | _ => 0
theorem Lw_CombineLocal_h2 (Kv : VW) : holdsAt Try.prog Lw_CombineLocal_E 104 (Lw_CombineLocal_O Kv) 2 := holdsAt_loop (by kernel_rfl) (fun ρ vs w h => by
  rw [Lw_CombineLocal_q2] at h
  unfold Lw_CombineLocal_P2 at h
  split at h
  · rename_i N1 ρt up_3 p_4 r_5 i_7 k_8
    obtain ⟨I, μ, h0, hr⟩ := h.out
    refine ⟨Lw_CombineLocal_I2 up_3 p_4 r_5 i_7 I, Lw_CombineLocal_M2 μ, ⟨⟨rfl, rfl, rfl, rfl, trivial⟩, h0⟩, fun vs w hI => ?_⟩
    unfold Lw_CombineLocal_I2 at hI
    split at hI
    · obtain ⟨⟨h0, h1, h2, h3, _⟩, hI⟩ := hI
      cases h0; cases h1; cases h2; cases h3
      rw [← Lw_CombineLocal_e2]
      exact hr _ _ hI
    · exact hI.elim
  · exact h.elim)
theorem Lw_CombineLocal_e3 (Kv : VW) (N3 N2 N1 : List Value -> World -> Prop) (ρ : Rho) (up_3 : Bool) (p_4 r_5 : Addr) (i_7 k_8 a_9 : Int) (w : World) : Lw_CombineLocal_b3 up_3 p_4 r_5 i_7 k_8 a_9 (fun up_3' p_4' r_5' i_7' k_8' a_9' w' => N3 [(Value.bool up_3'), (Value.pointer (some p_4')), (Value.pointer (some r_5')), (Value.int .i64 i_7'), (Value.int .i64 k_8'), (Value.int .i64 a_9')] w') (fun up_3' p_4' r_5' i_7' k_8' w' => N2 [(Value.bool up_3'), (Value.pointer (some p_4')), (Value.pointer (some r_5')), (Value.int .i64 i_7'), (Value.int .i64 k_8')] w') (fun up_3' p_4' r_5' i_7' w' => N1 [(Value.bool up_3'), (Value.pointer (some p_4')), (Value.pointer (some r_5')), (Value.int .i64 i_7')] w') (fun r0 w' => Kv (Value.bool r0) w') w = goalAt Try.prog Lw_CombineLocal_E 104 (Lw_CombineLocal_O Kv) 3 (N3 :: N2 :: N1 :: ρ) [(Value.bool up_3), (Value.pointer (some p_4)), (Value.pointer (some r_5)), (Value.int .i64 i_7), (Value.int .i64 k_8), (Value.int .i64 a_9)] w := by kernel_rfl
theorem Lw_CombineLocal_q3 (Kv : VW) (ρ : Rho) (vs : List Value) (w : World) : labAt (Lw_CombineLocal_O Kv) 3 ρ vs w = Lw_CombineLocal_P3 Kv ρ vs w := by kernel_rfl
def Lw_CombineLocal_I3 (up_30 : Bool) (p_40 r_50 : Addr) (i_70 k_80 : Int) (I : Int -> World -> Prop) (vs : List Value) (w : World) : Prop :=
  match vs with
  | [.bool up_3, .pointer (some p_4), .pointer (some r_5), .int .i64 i_7, .int .i64 k_8, .int .i64 a_9] => (up_3 = up_30 /\ p_4 = p_40 /\ r_5 = r_50 /\ i_7 = i_70 /\ k_8 = k_80 /\ True) /\ I a_9 w
  | _ => False
def Lw_CombineLocal_M3 (μ : Int -> World -> Nat) (vs : List Value) (w : World) : Nat :=
  match vs with
  | [.bool _up_3, .pointer (some _p_4), .pointer (some _r_5), .int .i64 _i_7, .int .i64 _k_8, .int .i64 a_9] => μ a_9 w
  | _ => 0
theorem Lw_CombineLocal_h3 (Kv : VW) : holdsAt Try.prog Lw_CombineLocal_E 104 (Lw_CombineLocal_O Kv) 3 := holdsAt_loop (by kernel_rfl) (fun ρ vs w h => by
  rw [Lw_CombineLocal_q3] at h
  unfold Lw_CombineLocal_P3 at h
  split at h
  · rename_i N2 N1 ρt up_3 p_4 r_5 i_7 k_8 a_9
    obtain ⟨I, μ, h0, hr⟩ := h.out
    refine ⟨Lw_CombineLocal_I3 up_3 p_4 r_5 i_7 k_8 I, Lw_CombineLocal_M3 μ, ⟨⟨rfl, rfl, rfl, rfl, rfl, trivial⟩, h0⟩, fun vs w hI => ?_⟩
    unfold Lw_CombineLocal_I3 at hI
    split at hI
    · obtain ⟨⟨h0, h1, h2, h3, h4, _⟩, hI⟩ := hI
      cases h0; cases h1; cases h2; cases h3; cases h4
      rw [← Lw_CombineLocal_e3]
      exact hr _ _ hI
    · exact hI.elim
  · exact h.elim)
theorem Lw_CombineLocal_e4 (Kv : VW) (N4 N3 N2 N1 : List Value -> World -> Prop) (ρ : Rho) (up_3 : Bool) (p_4 r_5 : Addr) (i_7 k_8 : Int) (a_9 b_10 : Int) (w : World) : Lw_CombineLocal_b4 up_3 p_4 r_5 i_7 k_8 a_9 b_10 (fun up_3' p_4' r_5' i_7' k_8' a_9' b_10' w' => N4 [(Value.bool up_3'), (Value.pointer (some p_4')), (Value.pointer (some r_5')), (Value.int .i64 i_7'), (Value.int .i64 k_8'), (Value.int .i64 a_9'), (Value.int .i64 b_10')] w') (fun up_3' p_4' r_5' i_7' k_8' a_9' w' => N3 [(Value.bool up_3'), (Value.pointer (some p_4')), (Value.pointer (some r_5')), (Value.int .i64 i_7'), (Value.int .i64 k_8'), (Value.int .i64 a_9')] w') (fun up_3' p_4' r_5' i_7' k_8' w' => N2 [(Value.bool up_3'), (Value.pointer (some p_4')), (Value.pointer (some r_5')), (Value.int .i64 i_7'), (Value.int .i64 k_8')] w') (fun up_3' p_4' r_5' i_7' w' => N1 [(Value.bool up_3'), (Value.pointer (some p_4')), (Value.pointer (some r_5')), (Value.int .i64 i_7')] w') (fun r0 w' => Kv (Value.bool r0) w') w = goalAt Try.prog Lw_CombineLocal_E 104 (Lw_CombineLocal_O Kv) 4 (N4 :: N3 :: N2 :: N1 :: ρ) [(Value.bool up_3), (Value.pointer (some p_4)), (Value.pointer (some r_5)), (Value.int .i64 i_7), (Value.int .i64 k_8), (Value.int .i64 a_9), (Value.int .i64 b_10)] w := by kernel_rfl
theorem Lw_CombineLocal_q4 (Kv : VW) (ρ : Rho) (vs : List Value) (w : World) : labAt (Lw_CombineLocal_O Kv) 4 ρ vs w = Lw_CombineLocal_P4 Kv ρ vs w := by kernel_rfl
def Lw_CombineLocal_I4 (up_30 : Bool) (p_40 r_50 : Addr) (i_70 k_80 a_90 : Int) (I : Int -> World -> Prop) (vs : List Value) (w : World) : Prop :=
  match vs with
  | [.bool up_3, .pointer (some p_4), .pointer (some r_5), .int .i64 i_7, .int .i64 k_8, .int .i64 a_9, .int .i64 b_10] => (up_3 = up_30 /\ p_4 = p_40 /\ r_5 = r_50 /\ i_7 = i_70 /\ k_8 = k_80 /\ a_9 = a_90 /\ True) /\ I b_10 w
  | _ => False
def Lw_CombineLocal_M4 (μ : Int -> World -> Nat) (vs : List Value) (w : World) : Nat :=
  match vs with
  | [.bool _up_3, .pointer (some _p_4), .pointer (some _r_5), .int .i64 _i_7, .int .i64 _k_8, .int .i64 _a_9, .int .i64 b_10] => μ b_10 w
  | _ => 0
theorem Lw_CombineLocal_h4 (Kv : VW) : holdsAt Try.prog Lw_CombineLocal_E 104 (Lw_CombineLocal_O Kv) 4 := holdsAt_loop (by kernel_rfl) (fun ρ vs w h => by
  rw [Lw_CombineLocal_q4] at h
  unfold Lw_CombineLocal_P4 at h
  split at h
  · rename_i N3 N2 N1 ρt up_3 p_4 r_5 i_7 k_8 a_9 b_10
    obtain ⟨I, μ, h0, hr⟩ := h.out
    refine ⟨Lw_CombineLocal_I4 up_3 p_4 r_5 i_7 k_8 a_9 I, Lw_CombineLocal_M4 μ, ⟨⟨rfl, rfl, rfl, rfl, rfl, rfl, trivial⟩, h0⟩, fun vs w hI => ?_⟩
    unfold Lw_CombineLocal_I4 at hI
    split at hI
    · obtain ⟨⟨h0, h1, h2, h3, h4, h5, _⟩, hI⟩ := hI
      cases h0; cases h1; cases h2; cases h3; cases h4; cases h5
      rw [← Lw_CombineLocal_e4]
      exact hr _ _ hI
    · exact hI.elim
  · exact h.elim)
theorem Lw_CombineLocal_n (Kv : VW) : obAt (Lw_CombineLocal_O Kv) 5 = none := by kernel_rfl
theorem Lw_CombineLocal_h (Kv : VW) : ∀ k, holdsAt Try.prog Lw_CombineLocal_E 104 (Lw_CombineLocal_O Kv) k := fun k => match k with
  | 0 => Lw_CombineLocal_h0 Kv
  | 1 => Lw_CombineLocal_h1 Kv
  | 2 => Lw_CombineLocal_h2 Kv
  | 3 => Lw_CombineLocal_h3 Kv
  | 4 => Lw_CombineLocal_h4 Kv
  | _k + 5 => holdsAt_ge (Lw_CombineLocal_n Kv) (Nat.le_add_left _ _)
theorem Lw_CombineLocal_ok : Sound Try.prog 6 Lw_CombineLocal_S := ⟨Try.call6, fun vs w Kv h => by
  unfold Lw_CombineLocal_S at h
  split at h
  · have h := h.out
    rw [Lw_CombineLocal_e] at h
    exact calls_sound (Γ := Lw_CombineLocal_E) progMixed ⟨.inl Lw_sanity_ok, .inl Rf_Made_ok, .inl Rf_Prefixes_ok, .inl Cb_Solve_ok, .inl Cb_Better_ok, .inl Cb_Paid_ok, .inl Cb_Points_ok, trivial⟩ Try.func6 (code := Lw_CombineLocal_C) (by kernel_rfl) (Lw_CombineLocal_A Kv) Kv (holds_all (Lw_CombineLocal_h Kv)) (Nat.le_of_ble_eq_true (by kernel_rfl)) h
  · exact h.elim⟩
end Go.Proofs.Ytmkjcheafdionaa
