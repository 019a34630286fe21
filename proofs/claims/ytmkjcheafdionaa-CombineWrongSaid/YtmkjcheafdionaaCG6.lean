/- The bodies' formulas, by program. -/
import Derived.Test.YtmkjcheafdionaaProg
import Derived.KernelRfl
import Derived.Test.YtmkjcheafdionaaPwX
import Derived.Test.YtmkjcheafdionaaCG0
import Derived.Test.YtmkjcheafdionaaCG1
import Derived.Test.YtmkjcheafdionaaCG2
import Derived.Test.YtmkjcheafdionaaCG3
import Derived.Test.YtmkjcheafdionaaCG4
import Derived.Test.YtmkjcheafdionaaCG5
set_option maxRecDepth 20000
namespace Go.Proofs.Ytmkjcheafdionaa
open Go Pw
/-! Lw_example -/
def Lw_example_k0d (t_6 p_7 : Addr) (K : Sl -> Sl -> Sl -> Int -> Int -> World -> Prop) (w : World) : Prop :=
  ∃ x10 : Sl, w.cell? p_7 = some (Value.slice x10.p x10.l x10.c) /\ ∃ x11 : Sl, w.cell? (p_7.add 1) = some (Value.slice x11.p x11.l x11.c) /\ ∃ x12 : Sl, w.cell? (p_7.add 2) = some (Value.slice x12.p x12.l x12.c) /\ ∃ x13 : Int, w.cell? (p_7.add 3) = some (Value.int .i64 x13) /\ ∃ x14 : Int, w.cell? (p_7.add 4) = some (Value.int .i64 x14) /\ stN w t_6 [(Value.slice x10.p x10.l x10.c), (Value.slice x11.p x11.l x11.c), (Value.slice x12.p x12.l x12.c), (Value.int .i64 x13), (Value.int .i64 x14)] fun w15 => ∃ x16 : Sl, w15.cell? t_6 = some (Value.slice x16.p x16.l x16.c) /\ ∃ x17 : Sl, w15.cell? (t_6.add 1) = some (Value.slice x17.p x17.l x17.c) /\ ∃ x18 : Sl, w15.cell? (t_6.add 2) = some (Value.slice x18.p x18.l x18.c) /\ ∃ x19 : Int, w15.cell? (t_6.add 3) = some (Value.int .i64 x19) /\ ∃ x20 : Int, w15.cell? (t_6.add 4) = some (Value.int .i64 x20) /\ K x16 x17 x18 x19 x20 w15
structure Lw_example_k0 (t_6 p_7 : Addr) (K : Sl -> Sl -> Sl -> Int -> Int -> World -> Prop) (w : World) : Prop where
  out : Lw_example_k0d t_6 p_7 K w
def Lw_example_sd (budget_0 most_1 off_2 : Int) (K : Sl -> Sl -> Sl -> Int -> Int -> World -> Prop) (w : World) : Prop :=
  let w1 := w.alloc (Obj.cells #[(Value.slice none 0 0), (Value.slice none 0 0), (Value.slice none 0 0), (Value.int .i64 0), (Value.int .i64 0)] 28)
  let w2 := w1.alloc (Obj.cells #[(Value.int .i64 1), (Value.int .i64 2)] 3)
  let w3 := w2.alloc (Obj.cells #[(Value.slice none 0 0), (Value.slice none 0 0), (Value.slice none 0 0), (Value.int .i64 0), (Value.int .i64 0)] 28)
  stN w3 (Addr.mk w2.heap.size 0 none) [(Value.slice (some (Addr.mk w1.heap.size 0 none)) 2 2), (Value.slice none 0 0), (Value.slice none 0 0), (Value.int .i64 most_1), (Value.int .i64 budget_0)] fun w4 => let w5 := w4.alloc (Obj.cells #[(Value.int .i64 1), (Value.int .i64 5), (Value.int .i64 10), (Value.int .i64 8), (Value.int .i64 1), (Value.int .i64 6), (Value.int .i64 7), (Value.int .i64 6), (Value.int .i64 2), (Value.int .i64 5), (Value.int .i64 9), (Value.int .i64 7)] 56)
  wrOk w5 (Addr.mk w2.heap.size 1 none) /\ 
  (let w6 := w5.setCell (Addr.mk w2.heap.size 1 none) (Value.slice (some (Addr.mk w4.heap.size 0 none)) 3 3)
  cnd (decide (off_2 > (0 : Int)))
    (let w7 := w6.alloc (Obj.cells #[(Value.int .i64 1), (Value.int .i64 2)] 3)
  let w8 := w7.alloc (Obj.cells #[(Value.int .i64 5), (Value.slice (some (Addr.mk w6.heap.size 0 none)) 2 2), (Value.int .i64 off_2)] 58)
  wrOk w8 (Addr.mk w2.heap.size 2 none) /\ 
  (let w9 := w8.setCell (Addr.mk w2.heap.size 2 none) (Value.slice (some (Addr.mk w7.heap.size 0 none)) 1 1)
  Lw_example_k0 (Addr.mk w.heap.size 0 none) (Addr.mk w2.heap.size 0 none) K w9))
    (Lw_example_k0 (Addr.mk w.heap.size 0 none) (Addr.mk w2.heap.size 0 none) K w6))
structure Lw_example_sh (budget_0 most_1 off_2 : Int) (K : Sl -> Sl -> Sl -> Int -> Int -> World -> Prop) (w : World) : Prop where
  out : Lw_example_sd budget_0 most_1 off_2 K w
def Lw_example_P0 (Kv : VW) (ρ : Rho) (vs : List Value) (w : World) : Prop :=
  match ρ, vs with
  | _, [.pointer (some t_6), .pointer (some p_7)] => Lw_example_k0 t_6 p_7 (fun r0_0 r0_1 r0_2 r0_3 r0_4 w' => Kv (Value.agg #[(Value.slice r0_0.p r0_0.l r0_0.c), (Value.slice r0_1.p r0_1.l r0_1.c), (Value.slice r0_2.p r0_2.l r0_2.c), (Value.int .i64 r0_3), (Value.int .i64 r0_4)]) w') w
  | _, _ => False
noncomputable def Lw_example_S : Pw.Spec := fun vs w Kv =>
  match vs with
  | [.int .i64 budget_0, .int .i64 most_1, .int .i64 off_2] => Lw_example_sh budget_0 most_1 off_2 (fun r0_0 r0_1 r0_2 r0_3 r0_4 w' => Kv (Value.agg #[(Value.slice r0_0.p r0_0.l r0_0.c), (Value.slice r0_1.p r0_1.l r0_1.c), (Value.slice r0_2.p r0_2.l r0_2.c), (Value.int .i64 r0_3), (Value.int .i64 r0_4)]) w') w
  | _ => False
noncomputable def Lw_example_E : Pw.Env := []
noncomputable def Lw_example_C : Code := (Try.f18.body).getD .skip
noncomputable def Lw_example_A (Kv : VW) : Pw.A :=
  (A.seq (A.reg (RA.run RA.done))
   (A.seq (A.reg (Pw.rn 6 RA.done))
   (A.seq (A.reg (Pw.rn 6 RA.done))
   (A.seq (A.seq (A.reg (Pw.rn 2 RA.done))
   (A.cond (A.reg (Pw.rn 6 RA.done))
   A.leaf))
   (A.cut [6, 7] (Lw_example_P0 Kv) (A.seq (A.reg (Pw.rn 2 RA.done))
   A.leaf))))))
noncomputable def Lw_example_O (Kv : VW) : List Ob := (obs Try.prog Lw_example_E 25 (Lw_example_A Kv) Lw_example_C (fun _ => retQ Try.prog Try.f18.results Kv))
theorem Lw_example_e (Kv : VW) (budget_0 most_1 off_2 : Int) (w : World) : Lw_example_sd budget_0 most_1 off_2 (fun r0_0 r0_1 r0_2 r0_3 r0_4 w' => Kv (Value.agg #[(Value.slice r0_0.p r0_0.l r0_0.c), (Value.slice r0_1.p r0_1.l r0_1.c), (Value.slice r0_2.p r0_2.l r0_2.c), (Value.int .i64 r0_3), (Value.int .i64 r0_4)]) w') w = W Try.prog Lw_example_E 25 (Lw_example_A Kv) Lw_example_C [] (retQ Try.prog Try.f18.results Kv) [] (startS [(Value.int .i64 budget_0), (Value.int .i64 most_1), (Value.int .i64 off_2)]) w := by kernel_rfl
theorem Lw_example_e0 (Kv : VW) (ρ : Rho) (t_6 p_7 : Addr) (w : World) : Lw_example_k0d t_6 p_7 (fun r0_0 r0_1 r0_2 r0_3 r0_4 w' => Kv (Value.agg #[(Value.slice r0_0.p r0_0.l r0_0.c), (Value.slice r0_1.p r0_1.l r0_1.c), (Value.slice r0_2.p r0_2.l r0_2.c), (Value.int .i64 r0_3), (Value.int .i64 r0_4)]) w') w = goalAt Try.prog Lw_example_E 25 (Lw_example_O Kv) 0 (ρ) [(Value.pointer (some t_6)), (Value.pointer (some p_7))] w := by kernel_rfl
theorem Lw_example_q0 (Kv : VW) (ρ : Rho) (vs : List Value) (w : World) : labAt (Lw_example_O Kv) 0 ρ vs w = Lw_example_P0 Kv ρ vs w := by kernel_rfl
theorem Lw_example_h0 (Kv : VW) : holdsAt Try.prog Lw_example_E 25 (Lw_example_O Kv) 0 := holdsAt_cut (.inl (by kernel_rfl)) (fun ρ vs w h => by
  rw [Lw_example_q0] at h
  unfold Lw_example_P0 at h
  split at h
  · rw [← Lw_example_e0]; exact h.out
  · exact h.elim)
theorem Lw_example_n (Kv : VW) : obAt (Lw_example_O Kv) 1 = none := by kernel_rfl
theorem Lw_example_h (Kv : VW) : ∀ k, holdsAt Try.prog Lw_example_E 25 (Lw_example_O Kv) k := fun k => match k with
  | 0 => Lw_example_h0 Kv
  | _k + 1 => holdsAt_ge (Lw_example_n Kv) (Nat.le_add_left _ _)
theorem Lw_example_ok : Sound Try.prog 18 Lw_example_S := ⟨Try.call18, fun vs w Kv h => by
  unfold Lw_example_S at h
  split at h
  · have h := h.out
    rw [Lw_example_e] at h
    exact calls_sound (Γ := Lw_example_E) progMixed trivial Try.func18 (code := Lw_example_C) (by kernel_rfl) (Lw_example_A Kv) Kv (holds_all (Lw_example_h Kv)) (Nat.le_of_ble_eq_true (by kernel_rfl)) h
  · exact h.elim⟩
/-! Lw_takes -/
def Lw_takes_sd (p_0_0 p_0_1 p_0_2 : Sl) (p_0_3 p_0_4 : Int) (want_1 : Sl) (points_2 : Int) (K : Bool -> World -> Prop) (w : World) : Prop :=
  let w1 := w.alloc (Obj.cells #[(Value.slice p_0_0.p p_0_0.l p_0_0.c), (Value.slice p_0_1.p p_0_1.l p_0_1.c), (Value.slice p_0_2.p p_0_2.l p_0_2.c), (Value.int .i64 p_0_3), (Value.int .i64 p_0_4)] 28)
  ∃ x2 : Sl, w1.cell? (Addr.mk w.heap.size 0 none) = some (Value.slice x2.p x2.l x2.c) /\ ∃ x3 : Sl, w1.cell? (Addr.mk w.heap.size 1 none) = some (Value.slice x3.p x3.l x3.c) /\ ∃ x4 : Sl, w1.cell? (Addr.mk w.heap.size 2 none) = some (Value.slice x4.p x4.l x4.c) /\ ∃ x5 : Int, w1.cell? (Addr.mk w.heap.size 3 none) = some (Value.int .i64 x5) /\ ∃ x6 : Int, w1.cell? (Addr.mk w.heap.size 4 none) = some (Value.int .i64 x6) /\ Cb_Solve_sh x2 x3 x4 x5 x6 (1000 : Int) (fun r8_0 r8_1 r8_2 r8_3 r9 w7 => let w10 := w7.alloc (Obj.cells #[(Value.slice none 0 0), (Value.int .i64 0), (Value.int .i64 0), (Value.slice none 0 0)] 33)
  stN w10 (Addr.mk w7.heap.size 0 none) [(Value.slice r8_0.p r8_0.l r8_0.c), (Value.int .i64 r8_1), (Value.int .i64 r8_2), (Value.slice r8_3.p r8_3.l r8_3.c)] fun w11 => cnd (r9 == (0 : Int))
    (∃ x12 : Sl, w11.cell? (Addr.mk w7.heap.size 0 none) = some (Value.slice x12.p x12.l x12.c) /\ Rf_Ints_sh x12 want_1 (fun r14 w13 => cnd r14
    (∃ x15 : Int, w13.cell? (Addr.mk w7.heap.size 1 none) = some (Value.int .i64 x15) /\ cnd (x15 == points_2)
    (∃ x16 : Int, w13.cell? (Addr.mk w7.heap.size 2 none) = some (Value.int .i64 x16) /\ K (x16 == points_2) w13)
    (K false w13))
    (K false w13)) w11)
    (K false w11)) w1
structure Lw_takes_sh (p_0_0 p_0_1 p_0_2 : Sl) (p_0_3 p_0_4 : Int) (want_1 : Sl) (points_2 : Int) (K : Bool -> World -> Prop) (w : World) : Prop where
  out : Lw_takes_sd p_0_0 p_0_1 p_0_2 p_0_3 p_0_4 want_1 points_2 K w
noncomputable def Lw_takes_S : Pw.Spec := fun vs w Kv =>
  match vs with
  | [.agg ⟨[.slice p_0_0p p_0_0l p_0_0c, .slice p_0_1p p_0_1l p_0_1c, .slice p_0_2p p_0_2l p_0_2c, .int .i64 p_0_3, .int .i64 p_0_4]⟩, .slice want_1p want_1l want_1c, .int .i64 points_2] => Lw_takes_sh ⟨p_0_0p, p_0_0l, p_0_0c⟩ ⟨p_0_1p, p_0_1l, p_0_1c⟩ ⟨p_0_2p, p_0_2l, p_0_2c⟩ p_0_3 p_0_4 ⟨want_1p, want_1l, want_1c⟩ points_2 (fun r0 w' => Kv (Value.bool r0) w') w
  | _ => False
noncomputable def Lw_takes_E : Pw.Env := [(10, Cb_Solve_S), (33, Rf_Ints_S)]
noncomputable def Lw_takes_C : Code := (Try.f17.body).getD .skip
noncomputable def Lw_takes_A (_Kv : VW) : Pw.A :=
  (A.seq (A.reg (Pw.rn 2 RA.done))
   (A.seq (A.reg (Pw.rn 8 RA.done))
   (A.seq (A.reg (Pw.rn 3 (RA.spl 16 (Pw.rn 6 (RA.spl 22 (Pw.rn 6 (RA.spl 28 (Pw.rn 6 RA.done) (Pw.sk 4 (Pw.rn 2 RA.done)))) (Pw.sk 4 (Pw.rn 2 (Pw.sk 4 (Pw.rn 2 RA.done)))))) (Pw.sk 4 (Pw.rn 2 (Pw.sk 4 (Pw.rn 2 (Pw.sk 4 (Pw.rn 2 RA.done)))))))))
   A.leaf)))
noncomputable def Lw_takes_O (Kv : VW) : List Ob := (obs Try.prog Lw_takes_E 34 (Lw_takes_A Kv) Lw_takes_C (fun _ => retQ Try.prog Try.f17.results Kv))
theorem Lw_takes_e (Kv : VW) (p_0_0p : Option Addr) (p_0_0l p_0_0c : Nat) (p_0_1p : Option Addr) (p_0_1l p_0_1c : Nat) (p_0_2p : Option Addr) (p_0_2l p_0_2c : Nat) (p_0_3 p_0_4 : Int) (want_1p : Option Addr) (want_1l want_1c : Nat) (points_2 : Int) (w : World) : Lw_takes_sd ⟨p_0_0p, p_0_0l, p_0_0c⟩ ⟨p_0_1p, p_0_1l, p_0_1c⟩ ⟨p_0_2p, p_0_2l, p_0_2c⟩ p_0_3 p_0_4 ⟨want_1p, want_1l, want_1c⟩ points_2 (fun r0 w' => Kv (Value.bool r0) w') w = W Try.prog Lw_takes_E 34 (Lw_takes_A Kv) Lw_takes_C [] (retQ Try.prog Try.f17.results Kv) [] (startS [(Value.agg #[(Value.slice p_0_0p p_0_0l p_0_0c), (Value.slice p_0_1p p_0_1l p_0_1c), (Value.slice p_0_2p p_0_2l p_0_2c), (Value.int .i64 p_0_3), (Value.int .i64 p_0_4)]), (Value.slice want_1p want_1l want_1c), (Value.int .i64 points_2)]) w := by kernel_rfl
theorem Lw_takes_n (Kv : VW) : obAt (Lw_takes_O Kv) 0 = none := by kernel_rfl
theorem Lw_takes_h (Kv : VW) : ∀ k, holdsAt Try.prog Lw_takes_E 34 (Lw_takes_O Kv) k := fun _ => holdsAt_ge (Lw_takes_n Kv) (Nat.zero_le _)
theorem Lw_takes_ok : Sound Try.prog 17 Lw_takes_S := ⟨Try.call17, fun vs w Kv h => by
  unfold Lw_takes_S at h
  split at h
  · have h := h.out
    rw [Lw_takes_e] at h
    exact calls_sound (Γ := Lw_takes_E) progMixed ⟨.inl Cb_Solve_ok, .inl Rf_Ints_ok, trivial⟩ Try.func17 (code := Lw_takes_C) (by kernel_rfl) (Lw_takes_A Kv) Kv (holds_all (Lw_takes_h Kv)) (Nat.le_of_ble_eq_true (by kernel_rfl)) h
  · exact h.elim⟩
/-! Lw_sanity -/
def Lw_sanity_k1d (one_1 two_2 : Bool) (K : Bool -> World -> Prop) (w : World) : Prop :=
  Lw_example_sh (18 : Int) (0 : Int) (1 : Int) (fun r27_0 r27_1 r27_2 r27_3 r27_4 w26 => let w28 := w26.alloc (Obj.cells #[(Value.int .i64 0), (Value.int .i64 2)] 3)
  Cb_Paid_sh r27_0 r27_1 r27_2 r27_3 r27_4 (Sl.mk (some (Addr.mk w26.heap.size 0 none)) 2 2) (fun r30 r31 w29 => cnd one_1
    (cnd two_2
    (cnd (r30 == (18 : Int))
    (K r31 w29)
    (K false w29))
    (K false w29))
    (K false w29)) w28) w
structure Lw_sanity_k1 (one_1 two_2 : Bool) (K : Bool -> World -> Prop) (w : World) : Prop where
  out : Lw_sanity_k1d one_1 two_2 K w
def Lw_sanity_k0d (one_1 : Bool) (K : Bool -> World -> Prop) (w : World) : Prop :=
  Lw_example_sh (19 : Int) (1 : Int) (0 : Int) (fun r17_0 r17_1 r17_2 r17_3 r17_4 w16 => let w18 := w16.alloc (Obj.cells #[(Value.int .i64 1), (Value.int .i64 2)] 3)
  Lw_takes_sh r17_0 r17_1 r17_2 r17_3 r17_4 (Sl.mk (some (Addr.mk w16.heap.size 0 none)) 2 2) (13 : Int) (fun r20 w19 => cnd r20
    (Lw_example_sh (6 : Int) (0 : Int) (0 : Int) (fun r22_0 r22_1 r22_2 r22_3 r22_4 w21 => let w23 := w21.alloc (Obj.cells #[(Value.int .i64 (-1)), (Value.int .i64 (-1))] 3)
  Lw_takes_sh r22_0 r22_1 r22_2 r22_3 r22_4 (Sl.mk (some (Addr.mk w21.heap.size 0 none)) 2 2) (0 : Int) (fun r25 w24 => Lw_sanity_k1 one_1 r25 K w24) w23) w19)
    (Lw_sanity_k1 one_1 false K w19)) w18) w
structure Lw_sanity_k0 (one_1 : Bool) (K : Bool -> World -> Prop) (w : World) : Prop where
  out : Lw_sanity_k0d one_1 K w
def Lw_sanity_sd (K : Bool -> World -> Prop) (w : World) : Prop :=
  Lw_example_sh (19 : Int) (0 : Int) (0 : Int) (fun r2_0 r2_1 r2_2 r2_3 r2_4 w1 => let w3 := w1.alloc (Obj.cells #[(Value.int .i64 0), (Value.int .i64 2)] 3)
  Lw_takes_sh r2_0 r2_1 r2_2 r2_3 r2_4 (Sl.mk (some (Addr.mk w1.heap.size 0 none)) 2 2) (15 : Int) (fun r5 w4 => cnd r5
    (Lw_example_sh (18 : Int) (0 : Int) (0 : Int) (fun r7_0 r7_1 r7_2 r7_3 r7_4 w6 => let w8 := w6.alloc (Obj.cells #[(Value.int .i64 1), (Value.int .i64 2)] 3)
  Lw_takes_sh r7_0 r7_1 r7_2 r7_3 r7_4 (Sl.mk (some (Addr.mk w6.heap.size 0 none)) 2 2) (13 : Int) (fun r10 w9 => cnd r10
    (Lw_example_sh (18 : Int) (0 : Int) (1 : Int) (fun r12_0 r12_1 r12_2 r12_3 r12_4 w11 => let w13 := w11.alloc (Obj.cells #[(Value.int .i64 0), (Value.int .i64 2)] 3)
  Lw_takes_sh r12_0 r12_1 r12_2 r12_3 r12_4 (Sl.mk (some (Addr.mk w11.heap.size 0 none)) 2 2) (15 : Int) (fun r15 w14 => Lw_sanity_k0 r15 K w14) w13) w9)
    (Lw_sanity_k0 false K w9)) w8) w4)
    (Lw_sanity_k0 false K w4)) w3) w
structure Lw_sanity_sh (K : Bool -> World -> Prop) (w : World) : Prop where
  out : Lw_sanity_sd K w
def Lw_sanity_P0 (Kv : VW) (ρ : Rho) (vs : List Value) (w : World) : Prop :=
  match ρ, vs with
  | _, [.bool one_1] => Lw_sanity_k0 one_1 (fun r0 w' => Kv (Value.bool r0) w') w
  | _, _ => False
def Lw_sanity_P1 (Kv : VW) (ρ : Rho) (vs : List Value) (w : World) : Prop :=
  match ρ, vs with
  | _, [.bool one_1, .bool two_2] => Lw_sanity_k1 one_1 two_2 (fun r0 w' => Kv (Value.bool r0) w') w
  | _, _ => False
noncomputable def Lw_sanity_S : Pw.Spec := fun vs w Kv =>
  match vs with
  | [] => Lw_sanity_sh (fun r0 w' => Kv (Value.bool r0) w') w
  | _ => False
noncomputable def Lw_sanity_E : Pw.Env := [(15, Cb_Paid_S), (17, Lw_takes_S), (18, Lw_example_S)]
noncomputable def Lw_sanity_C : Code := (Try.f7.body).getD .skip
noncomputable def Lw_sanity_A (Kv : VW) : Pw.A :=
  (A.seq (A.reg (RA.run RA.done))
   (A.seq (A.reg (Pw.rn 4 (RA.spl 8 (Pw.rn 5 (RA.spl 13 (Pw.rn 5 RA.done) (Pw.sk 3 (Pw.rn 2 RA.done)))) (Pw.sk 3 (Pw.rn 2 (Pw.sk 3 (Pw.rn 2 RA.done)))))))
   (A.cut [1] (Lw_sanity_P0 Kv) (A.seq (A.reg (Pw.rn 4 (RA.spl 21 (Pw.rn 5 RA.done) (Pw.sk 3 (Pw.rn 2 RA.done)))))
   (A.cut [1, 2] (Lw_sanity_P1 Kv) (A.seq (A.reg (Pw.rn 8 RA.done))
   (A.seq (A.reg (Pw.rn 2 (RA.spl 33 (Pw.rn 3 (RA.spl 36 (Pw.rn 4 (RA.spl 40 (Pw.rn 3 RA.done) (RA.skp (Pw.rn 2 RA.done)))) (Pw.sk 2 (Pw.rn 2 (RA.skp (Pw.rn 2 RA.done)))))) (RA.skp (Pw.rn 2 (Pw.sk 2 (Pw.rn 2 (RA.skp (Pw.rn 2 RA.done)))))))))
   A.leaf)))))))
noncomputable def Lw_sanity_O (Kv : VW) : List Ob := (obs Try.prog Lw_sanity_E 43 (Lw_sanity_A Kv) Lw_sanity_C (fun _ => retQ Try.prog Try.f7.results Kv))
theorem Lw_sanity_e (Kv : VW) (w : World) : Lw_sanity_sd (fun r0 w' => Kv (Value.bool r0) w') w = W Try.prog Lw_sanity_E 43 (Lw_sanity_A Kv) Lw_sanity_C [] (retQ Try.prog Try.f7.results Kv) [] (startS []) w := by kernel_rfl
theorem Lw_sanity_e0 (Kv : VW) (ρ : Rho) (one_1 : Bool) (w : World) : Lw_sanity_k0d one_1 (fun r0 w' => Kv (Value.bool r0) w') w = goalAt Try.prog Lw_sanity_E 43 (Lw_sanity_O Kv) 0 (ρ) [(Value.bool one_1)] w := by kernel_rfl
theorem Lw_sanity_q0 (Kv : VW) (ρ : Rho) (vs : List Value) (w : World) : labAt (Lw_sanity_O Kv) 0 ρ vs w = Lw_sanity_P0 Kv ρ vs w := by kernel_rfl
theorem Lw_sanity_h0 (Kv : VW) : holdsAt Try.prog Lw_sanity_E 43 (Lw_sanity_O Kv) 0 := holdsAt_cut (.inl (by kernel_rfl)) (fun ρ vs w h => by
  rw [Lw_sanity_q0] at h
  unfold Lw_sanity_P0 at h
  split at h
  · rw [← Lw_sanity_e0]; exact h.out
  · exact h.elim)
theorem Lw_sanity_e1 (Kv : VW) (ρ : Rho) (one_1 two_2 : Bool) (w : World) : Lw_sanity_k1d one_1 two_2 (fun r0 w' => Kv (Value.bool r0) w') w = goalAt Try.prog Lw_sanity_E 43 (Lw_sanity_O Kv) 1 (ρ) [(Value.bool one_1), (Value.bool two_2)] w := by kernel_rfl
theorem Lw_sanity_q1 (Kv : VW) (ρ : Rho) (vs : List Value) (w : World) : labAt (Lw_sanity_O Kv) 1 ρ vs w = Lw_sanity_P1 Kv ρ vs w := by kernel_rfl
theorem Lw_sanity_h1 (Kv : VW) : holdsAt Try.prog Lw_sanity_E 43 (Lw_sanity_O Kv) 1 := holdsAt_cut (.inl (by kernel_rfl)) (fun ρ vs w h => by
  rw [Lw_sanity_q1] at h
  unfold Lw_sanity_P1 at h
  split at h
  · rw [← Lw_sanity_e1]; exact h.out
  · exact h.elim)
theorem Lw_sanity_n (Kv : VW) : obAt (Lw_sanity_O Kv) 2 = none := by kernel_rfl
theorem Lw_sanity_h (Kv : VW) : ∀ k, holdsAt Try.prog Lw_sanity_E 43 (Lw_sanity_O Kv) k := fun k => match k with
  | 0 => Lw_sanity_h0 Kv
  | 1 => Lw_sanity_h1 Kv
  | _k + 2 => holdsAt_ge (Lw_sanity_n Kv) (Nat.le_add_left _ _)
theorem Lw_sanity_ok : Sound Try.prog 7 Lw_sanity_S := ⟨Try.call7, fun vs w Kv h => by
  unfold Lw_sanity_S at h
  split at h
  · have h := h.out
    rw [Lw_sanity_e] at h
    exact calls_sound (Γ := Lw_sanity_E) progMixed ⟨.inl Cb_Paid_ok, .inl Lw_takes_ok, .inl Lw_example_ok, trivial⟩ Try.func7 (code := Lw_sanity_C) (by kernel_rfl) (Lw_sanity_A Kv) Kv (holds_all (Lw_sanity_h Kv)) (Nat.le_of_ble_eq_true (by kernel_rfl)) h
  · exact h.elim⟩
/-! Lw_CombineWrong -/
def Lw_CombineWrong_k2d (up_7 : Bool) (f_13 g_15 h_17 : Int) (K : Bool -> World -> Prop) (w : World) : Prop :=
  cnd up_7
    (cnd (f_13 == (1 : Int))
    (cnd (g_15 == (1 : Int))
    (K (h_17 != (1 : Int)) w)
    (K false w))
    (K false w))
    (K false w)
structure Lw_CombineWrong_k2 (up_7 : Bool) (f_13 g_15 h_17 : Int) (K : Bool -> World -> Prop) (w : World) : Prop where
  out : Lw_CombineWrong_k2d up_7 f_13 g_15 h_17 K w
def Lw_CombineWrong_k1d (work_2 : Int) (up_7 : Bool) (a_8 : Addr) (K : Bool -> World -> Prop) (w : World) : Prop :=
  ∃ x48 : Sl, w.cell? a_8 = some (Value.slice x48.p x48.l x48.c) /\ ∃ x49 : Sl, w.cell? (a_8.add 1) = some (Value.slice x49.p x49.l x49.c) /\ ∃ x50 : Sl, w.cell? (a_8.add 2) = some (Value.slice x50.p x50.l x50.c) /\ ∃ x51 : Int, w.cell? (a_8.add 3) = some (Value.int .i64 x51) /\ ∃ x52 : Int, w.cell? (a_8.add 4) = some (Value.int .i64 x52) /\ Cb_Solve_sh x48 x49 x50 x51 x52 (-1 : Int) (fun r54_0 r54_1 r54_2 r54_3 r55 w53 => let w56 := w53.alloc (Obj.cells #[(Value.slice none 0 0), (Value.int .i64 0), (Value.int .i64 0), (Value.slice none 0 0)] 33)
  stN w56 (Addr.mk w53.heap.size 0 none) [(Value.slice r54_0.p r54_0.l r54_0.c), (Value.int .i64 r54_1), (Value.int .i64 r54_2), (Value.slice r54_3.p r54_3.l r54_3.c)] fun w57 => ∃ x58 : Sl, w57.cell? a_8 = some (Value.slice x58.p x58.l x58.c) /\ ∃ x59 : Sl, w57.cell? (a_8.add 1) = some (Value.slice x59.p x59.l x59.c) /\ ∃ x60 : Sl, w57.cell? (a_8.add 2) = some (Value.slice x60.p x60.l x60.c) /\ ∃ x61 : Int, w57.cell? (a_8.add 3) = some (Value.int .i64 x61) /\ ∃ x62 : Int, w57.cell? (a_8.add 4) = some (Value.int .i64 x62) /\ Cb_Solve_sh x58 x59 x60 x61 x62 (1048577 : Int) (fun r64_0 r64_1 r64_2 r64_3 r65 w63 => let w66 := w63.alloc (Obj.cells #[(Value.slice none 0 0), (Value.int .i64 0), (Value.int .i64 0), (Value.slice none 0 0)] 33)
  stN w66 (Addr.mk w63.heap.size 0 none) [(Value.slice r64_0.p r64_0.l r64_0.c), (Value.int .i64 r64_1), (Value.int .i64 r64_2), (Value.slice r64_3.p r64_3.l r64_3.c)] fun w67 => let w68 := w67.drew
  ∃ S69 : World -> Prop, S69 w68 /\ ∃ x70 : Sl, (∀ w' : World, S69 w' -> w'.cell? a_8 = some (Value.slice x70.p x70.l x70.c)) /\ ∃ x71 : Sl, (∀ w' : World, S69 w' -> w'.cell? (a_8.add 1) = some (Value.slice x71.p x71.l x71.c)) /\ ∃ x72 : Sl, (∀ w' : World, S69 w' -> w'.cell? (a_8.add 2) = some (Value.slice x72.p x72.l x72.c)) /\ ∃ x73 : Int, (∀ w' : World, S69 w' -> w'.cell? (a_8.add 3) = some (Value.int .i64 x73)) /\ ∃ x74 : Int, (∀ w' : World, S69 w' -> w'.cell? (a_8.add 4) = some (Value.int .i64 x74)) /\ (Rg_Mod_sh work_2 (50 : Int) (fun r76 w75 => S69 w75 /\ (Cb_Solve_sh x70 x71 x72 x73 x74 r76 (fun r78_0 r78_1 r78_2 r78_3 r79 w77 => S69 w77 /\ let w80 := w77.alloc (Obj.cells #[(Value.slice none 0 0), (Value.int .i64 0), (Value.int .i64 0), (Value.slice none 0 0)] 33)
  S69 w80 /\ stN w80 (Addr.mk w77.heap.size 0 none) [(Value.slice r78_0.p r78_0.l r78_0.c), (Value.int .i64 r78_1), (Value.int .i64 r78_2), (Value.slice r78_3.p r78_3.l r78_3.c)] fun w81 => Lw_CombineWrong_k2 up_7 r55 r65 r79 K w81) w75)
    /\ (let w82 := w75.alloc (Obj.cells #[(Value.slice none 0 0), (Value.int .i64 0), (Value.int .i64 0), (Value.slice none 0 0)] 33)
  S69 w82 /\ Cb_Solve_sh x70 x71 x72 x73 x74 r76 (fun r84_0 r84_1 r84_2 r84_3 r85 w83 => stN w83 (Addr.mk w75.heap.size 0 none) [(Value.slice r84_0.p r84_0.l r84_0.c), (Value.int .i64 r84_1), (Value.int .i64 r84_2), (Value.slice r84_3.p r84_3.l r84_3.c)] fun w86 => Lw_CombineWrong_k2 up_7 r55 r65 r85 K w86) w82)) w68)
    /\ (let w87 := w68.alloc (Obj.cells #[(Value.slice none 0 0), (Value.int .i64 0), (Value.int .i64 0), (Value.slice none 0 0)] 33)
  S69 w87 /\ Rg_Mod_sh work_2 (50 : Int) (fun r89 w88 => S69 w88 /\ Cb_Solve_sh x70 x71 x72 x73 x74 r89 (fun r91_0 r91_1 r91_2 r91_3 r92 w90 => stN w90 (Addr.mk w68.heap.size 0 none) [(Value.slice r91_0.p r91_0.l r91_0.c), (Value.int .i64 r91_1), (Value.int .i64 r91_2), (Value.slice r91_3.p r91_3.l r91_3.c)] fun w93 => Lw_CombineWrong_k2 up_7 r55 r65 r92 K w93) w88) w87)) w57) w
structure Lw_CombineWrong_k1 (work_2 : Int) (up_7 : Bool) (a_8 : Addr) (K : Bool -> World -> Prop) (w : World) : Prop where
  out : Lw_CombineWrong_k1d work_2 up_7 a_8 K w
def Lw_CombineWrong_k0d (work_2 : Int) (up_7 : Bool) (a_8 b_9 : Addr) (e_11 : Int) (K : Bool -> World -> Prop) (w : World) : Prop :=
  ∃ x41 : Sl, w.cell? b_9 = some (Value.slice x41.p x41.l x41.c) /\ ∃ x42 : Sl, w.cell? (b_9.add 1) = some (Value.slice x42.p x42.l x42.c) /\ ∃ x43 : Sl, w.cell? (b_9.add 2) = some (Value.slice x43.p x43.l x43.c) /\ ∃ x44 : Int, w.cell? (b_9.add 3) = some (Value.int .i64 x44) /\ ∃ x45 : Int, w.cell? (b_9.add 4) = some (Value.int .i64 x45) /\ Rf_Right_sh x41 x42 x43 x44 x45 (fun r47 w46 => cnd r47
    (cnd (e_11 == (1 : Int))
    (K false w46)
    (Lw_CombineWrong_k1 work_2 up_7 a_8 K w46))
    (Lw_CombineWrong_k1 work_2 up_7 a_8 K w46)) w
structure Lw_CombineWrong_k0 (work_2 : Int) (up_7 : Bool) (a_8 b_9 : Addr) (e_11 : Int) (K : Bool -> World -> Prop) (w : World) : Prop where
  out : Lw_CombineWrong_k0d work_2 up_7 a_8 b_9 e_11 K w
def Lw_CombineWrong_sd (l_0 : Sl) (q_1_0 q_1_1 : Int) (q_1_2 work_2 : Int) (K : Bool -> World -> Prop) (w : World) : Prop :=
  let w1 := w.alloc (Obj.cells #[(Value.int .i64 q_1_0), (Value.int .i64 q_1_1), (Value.int .i64 q_1_2)] 39)
  Lw_sanity_sh (fun r3 w2 => Rf_Made_sh l_0 (fun r5_0 r5_1 r5_2 r5_3 r5_4 w4 => let w6 := w4.alloc (Obj.cells #[(Value.slice none 0 0), (Value.slice none 0 0), (Value.slice none 0 0), (Value.int .i64 0), (Value.int .i64 0)] 28)
  stN w6 (Addr.mk w4.heap.size 0 none) [(Value.slice r5_0.p r5_0.l r5_0.c), (Value.slice r5_1.p r5_1.l r5_1.c), (Value.slice r5_2.p r5_2.l r5_2.c), (Value.int .i64 r5_3), (Value.int .i64 r5_4)] fun w7 => ∃ x8 : Sl, w7.cell? (Addr.mk w4.heap.size 0 none) = some (Value.slice x8.p x8.l x8.c) /\ ∃ x9 : Sl, w7.cell? (Addr.mk w4.heap.size 1 none) = some (Value.slice x9.p x9.l x9.c) /\ ∃ x10 : Sl, w7.cell? (Addr.mk w4.heap.size 2 none) = some (Value.slice x10.p x10.l x10.c) /\ ∃ x11 : Int, w7.cell? (Addr.mk w4.heap.size 3 none) = some (Value.int .i64 x11) /\ ∃ x12 : Int, w7.cell? (Addr.mk w4.heap.size 4 none) = some (Value.int .i64 x12) /\ ∃ x13 : Int, w7.cell? (Addr.mk w.heap.size 0 none) = some (Value.int .i64 x13) /\ ∃ x14 : Int, w7.cell? (Addr.mk w.heap.size 1 none) = some (Value.int .i64 x14) /\ ∃ x15 : Int, w7.cell? (Addr.mk w.heap.size 2 none) = some (Value.int .i64 x15) /\ Rf_Spoiled_sh x8 x9 x10 x11 x12 x13 x14 x15 (fun r17_0 r17_1 r17_2 r17_3 r17_4 w16 => let w18 := w16.alloc (Obj.cells #[(Value.slice none 0 0), (Value.slice none 0 0), (Value.slice none 0 0), (Value.int .i64 0), (Value.int .i64 0)] 28)
  stN w18 (Addr.mk w16.heap.size 0 none) [(Value.slice r17_0.p r17_0.l r17_0.c), (Value.slice r17_1.p r17_1.l r17_1.c), (Value.slice r17_2.p r17_2.l r17_2.c), (Value.int .i64 r17_3), (Value.int .i64 r17_4)] fun w19 => ∃ x20 : Sl, w19.cell? (Addr.mk w16.heap.size 0 none) = some (Value.slice x20.p x20.l x20.c) /\ ∃ x21 : Sl, w19.cell? (Addr.mk w16.heap.size 1 none) = some (Value.slice x21.p x21.l x21.c) /\ ∃ x22 : Sl, w19.cell? (Addr.mk w16.heap.size 2 none) = some (Value.slice x22.p x22.l x22.c) /\ ∃ x23 : Int, w19.cell? (Addr.mk w16.heap.size 3 none) = some (Value.int .i64 x23) /\ ∃ x24 : Int, w19.cell? (Addr.mk w16.heap.size 4 none) = some (Value.int .i64 x24) /\ Cb_Solve_sh x20 x21 x22 x23 x24 (4 : Int) (fun r26_0 r26_1 r26_2 r26_3 r27 w25 => let w28 := w25.alloc (Obj.cells #[(Value.slice none 0 0), (Value.int .i64 0), (Value.int .i64 0), (Value.slice none 0 0)] 33)
  stN w28 (Addr.mk w25.heap.size 0 none) [(Value.slice r26_0.p r26_0.l r26_0.c), (Value.int .i64 r26_1), (Value.int .i64 r26_2), (Value.slice r26_3.p r26_3.l r26_3.c)] fun w29 => ∃ x30 : Sl, w29.cell? (Addr.mk w16.heap.size 0 none) = some (Value.slice x30.p x30.l x30.c) /\ ∃ x31 : Sl, w29.cell? (Addr.mk w16.heap.size 1 none) = some (Value.slice x31.p x31.l x31.c) /\ ∃ x32 : Sl, w29.cell? (Addr.mk w16.heap.size 2 none) = some (Value.slice x32.p x32.l x32.c) /\ ∃ x33 : Int, w29.cell? (Addr.mk w16.heap.size 3 none) = some (Value.int .i64 x33) /\ ∃ x34 : Int, w29.cell? (Addr.mk w16.heap.size 4 none) = some (Value.int .i64 x34) /\ Rf_Right_sh x30 x31 x32 x33 x34 (fun r36 w35 => cnd (!r36)
    (cnd (r27 != (1 : Int))
    (K false w35)
    (∃ x37 : Sl, w35.cell? (Addr.mk w25.heap.size 0 none) = some (Value.slice x37.p x37.l x37.c) /\ ∃ x38 : Sl, w35.cell? (Addr.mk w25.heap.size 3 none) = some (Value.slice x38.p x38.l x38.c) /\ inR .i64 ((x37.l : Int) + (x38.l : Int)) /\ ∃ x39 : Int, w35.cell? (Addr.mk w25.heap.size 1 none) = some (Value.int .i64 x39) /\ inR .i64 (((x37.l : Int) + (x38.l : Int)) + x39) /\ ∃ x40 : Int, w35.cell? (Addr.mk w25.heap.size 2 none) = some (Value.int .i64 x40) /\ inR .i64 ((((x37.l : Int) + (x38.l : Int)) + x39) + x40) /\ cnd (((((x37.l : Int) + (x38.l : Int)) + x39) + x40) != (0 : Int))
    (K false w35)
    (Lw_CombineWrong_k0 work_2 r3 (Addr.mk w4.heap.size 0 none) (Addr.mk w16.heap.size 0 none) r27 K w35)))
    (Lw_CombineWrong_k0 work_2 r3 (Addr.mk w4.heap.size 0 none) (Addr.mk w16.heap.size 0 none) r27 K w35)) w29) w19) w7) w2) w1
structure Lw_CombineWrong_sh (l_0 : Sl) (q_1_0 q_1_1 : Int) (q_1_2 work_2 : Int) (K : Bool -> World -> Prop) (w : World) : Prop where
  out : Lw_CombineWrong_sd l_0 q_1_0 q_1_1 q_1_2 work_2 K w
def Lw_CombineWrong_P0 (Kv : VW) (ρ : Rho) (vs : List Value) (w : World) : Prop :=
  match ρ, vs with
  | _, [.int .i64 work_2, .bool up_7, .pointer (some a_8), .pointer (some b_9), .int .i64 e_11] => Lw_CombineWrong_k0 work_2 up_7 a_8 b_9 e_11 (fun r0 w' => Kv (Value.bool r0) w') w
  | _, _ => False
def Lw_CombineWrong_P1 (Kv : VW) (ρ : Rho) (vs : List Value) (w : World) : Prop :=
  match ρ, vs with
  | _, [.int .i64 work_2, .bool up_7, .pointer (some a_8)] => Lw_CombineWrong_k1 work_2 up_7 a_8 (fun r0 w' => Kv (Value.bool r0) w') w
  | _, _ => False
def Lw_CombineWrong_P2 (Kv : VW) (ρ : Rho) (vs : List Value) (w : World) : Prop :=
  match ρ, vs with
  | _, [.bool up_7, .int .i64 f_13, .int .i64 g_15, .int .i64 h_17] => Lw_CombineWrong_k2 up_7 f_13 g_15 h_17 (fun r0 w' => Kv (Value.bool r0) w') w
  | _, _ => False
noncomputable def Lw_CombineWrong_S : Pw.Spec := fun vs w Kv =>
  match vs with
  | [.slice l_0p l_0l l_0c, .agg ⟨[.int .i64 q_1_0, .int .i64 q_1_1, .int .i64 q_1_2]⟩, .int .i64 work_2] => Lw_CombineWrong_sh ⟨l_0p, l_0l, l_0c⟩ q_1_0 q_1_1 q_1_2 work_2 (fun r0 w' => Kv (Value.bool r0) w') w
  | _ => False
noncomputable def Lw_CombineWrong_E : Pw.Env := [(7, Lw_sanity_S), (8, Rf_Made_S), (10, Cb_Solve_S), (11, Rf_Spoiled_S), (12, Rf_Right_S), (13, Rg_Mod_S)]
noncomputable def Lw_CombineWrong_C : Code := (Try.f5.body).getD .skip
noncomputable def Lw_CombineWrong_A (Kv : VW) : Pw.A :=
  (A.seq (A.reg (Pw.rn 2 RA.done))
   (A.seq (A.reg (Pw.rn 2 RA.done))
   (A.seq (A.reg (Pw.rn 4 RA.done))
   (A.seq (A.reg (Pw.rn 5 RA.done))
   (A.seq (A.reg (Pw.rn 8 RA.done))
   (A.seq (A.seq (A.reg (Pw.rn 4 (RA.spl 32 (Pw.rn 3 (RA.spl 35 (Pw.sk 14 (Pw.rn 2 RA.done)) (Pw.rn 16 RA.done))) (Pw.sk 18 (RA.run RA.done)))))
   (A.cond (A.seq (A.reg (RA.run RA.done))
   A.leaf)
   A.leaf))
   (A.cut [2, 7, 8, 9, 11] (Lw_CombineWrong_P0 Kv) (A.seq (A.seq (A.reg (Pw.rn 3 (RA.spl 54 (Pw.rn 3 RA.done) (Pw.sk 2 (RA.run RA.done)))))
   (A.cond (A.seq (A.reg (RA.run RA.done))
   A.leaf)
   A.leaf))
   (A.cut [2, 7, 8] (Lw_CombineWrong_P1 Kv) (A.seq (A.reg (Pw.rn 8 RA.done))
   (A.seq (A.reg (Pw.rn 8 RA.done))
   (A.seq (A.drw (DA.pur 0 (DA.pur 1 (DA.two 2 (DA.two 3 (DA.pur 4 (DA.pur 5 (DA.pur 6 (DA.eff 7 (DA.eff 8 (DA.pur 9 DA.done)))))) 7 (DA.eff 3 (DA.pur 4 (DA.pur 5 (DA.pur 6 (DA.eff 8 (DA.pur 9 DA.done))))))) 7 (DA.eff 2 (DA.eff 3 (DA.pur 4 (DA.pur 5 (DA.pur 6 (DA.eff 8 (DA.pur 9 DA.done)))))))))))
   (A.cut [7, 13, 15, 17] (Lw_CombineWrong_P2 Kv) (A.seq (A.reg (Pw.rn 2 (RA.spl 76 (Pw.rn 4 (RA.spl 80 (Pw.rn 4 (RA.spl 84 (Pw.rn 4 RA.done) (Pw.sk 2 (Pw.rn 2 RA.done)))) (Pw.sk 2 (Pw.rn 2 (Pw.sk 2 (Pw.rn 2 RA.done)))))) (Pw.sk 2 (Pw.rn 2 (Pw.sk 2 (Pw.rn 2 (Pw.sk 2 (Pw.rn 2 RA.done)))))))))
   A.leaf))))))))))))))
noncomputable def Lw_CombineWrong_O (Kv : VW) : List Ob := (obs Try.prog Lw_CombineWrong_E 88 (Lw_CombineWrong_A Kv) Lw_CombineWrong_C (fun _ => retQ Try.prog Try.f5.results Kv))
theorem Lw_CombineWrong_e (Kv : VW) (l_0p : Option Addr) (l_0l l_0c : Nat) (q_1_0 q_1_1 : Int) (q_1_2 work_2 : Int) (w : World) : Lw_CombineWrong_sd ⟨l_0p, l_0l, l_0c⟩ q_1_0 q_1_1 q_1_2 work_2 (fun r0 w' => Kv (Value.bool r0) w') w = W Try.prog Lw_CombineWrong_E 88 (Lw_CombineWrong_A Kv) Lw_CombineWrong_C [] (retQ Try.prog Try.f5.results Kv) [] (startS [(Value.slice l_0p l_0l l_0c), (Value.agg #[(Value.int .i64 q_1_0), (Value.int .i64 q_1_1), (Value.int .i64 q_1_2)]), (Value.int .i64 work_2)]) w := by kernel_rfl
theorem Lw_CombineWrong_e0 (Kv : VW) (ρ : Rho) (work_2 : Int) (up_7 : Bool) (a_8 b_9 : Addr) (e_11 : Int) (w : World) : Lw_CombineWrong_k0d work_2 up_7 a_8 b_9 e_11 (fun r0 w' => Kv (Value.bool r0) w') w = goalAt Try.prog Lw_CombineWrong_E 88 (Lw_CombineWrong_O Kv) 0 (ρ) [(Value.int .i64 work_2), (Value.bool up_7), (Value.pointer (some a_8)), (Value.pointer (some b_9)), (Value.int .i64 e_11)] w := by kernel_rfl
theorem Lw_CombineWrong_q0 (Kv : VW) (ρ : Rho) (vs : List Value) (w : World) : labAt (Lw_CombineWrong_O Kv) 0 ρ vs w = Lw_CombineWrong_P0 Kv ρ vs w := by kernel_rfl
theorem Lw_CombineWrong_h0 (Kv : VW) : holdsAt Try.prog Lw_CombineWrong_E 88 (Lw_CombineWrong_O Kv) 0 := holdsAt_cut (.inl (by kernel_rfl)) (fun ρ vs w h => by
  rw [Lw_CombineWrong_q0] at h
  unfold Lw_CombineWrong_P0 at h
  split at h
  · rw [← Lw_CombineWrong_e0]; exact h.out
  · exact h.elim)
theorem Lw_CombineWrong_e1 (Kv : VW) (ρ : Rho) (work_2 : Int) (up_7 : Bool) (a_8 : Addr) (w : World) : Lw_CombineWrong_k1d work_2 up_7 a_8 (fun r0 w' => Kv (Value.bool r0) w') w = goalAt Try.prog Lw_CombineWrong_E 88 (Lw_CombineWrong_O Kv) 1 (ρ) [(Value.int .i64 work_2), (Value.bool up_7), (Value.pointer (some a_8))] w := by kernel_rfl
theorem Lw_CombineWrong_q1 (Kv : VW) (ρ : Rho) (vs : List Value) (w : World) : labAt (Lw_CombineWrong_O Kv) 1 ρ vs w = Lw_CombineWrong_P1 Kv ρ vs w := by kernel_rfl
theorem Lw_CombineWrong_h1 (Kv : VW) : holdsAt Try.prog Lw_CombineWrong_E 88 (Lw_CombineWrong_O Kv) 1 := holdsAt_cut (.inl (by kernel_rfl)) (fun ρ vs w h => by
  rw [Lw_CombineWrong_q1] at h
  unfold Lw_CombineWrong_P1 at h
  split at h
  · rw [← Lw_CombineWrong_e1]; exact h.out
  · exact h.elim)
theorem Lw_CombineWrong_e2 (Kv : VW) (ρ : Rho) (up_7 : Bool) (f_13 g_15 h_17 : Int) (w : World) : Lw_CombineWrong_k2d up_7 f_13 g_15 h_17 (fun r0 w' => Kv (Value.bool r0) w') w = goalAt Try.prog Lw_CombineWrong_E 88 (Lw_CombineWrong_O Kv) 2 (ρ) [(Value.bool up_7), (Value.int .i64 f_13), (Value.int .i64 g_15), (Value.int .i64 h_17)] w := by kernel_rfl
theorem Lw_CombineWrong_q2 (Kv : VW) (ρ : Rho) (vs : List Value) (w : World) : labAt (Lw_CombineWrong_O Kv) 2 ρ vs w = Lw_CombineWrong_P2 Kv ρ vs w := by kernel_rfl
theorem Lw_CombineWrong_h2 (Kv : VW) : holdsAt Try.prog Lw_CombineWrong_E 88 (Lw_CombineWrong_O Kv) 2 := holdsAt_cut (.inl (by kernel_rfl)) (fun ρ vs w h => by
  rw [Lw_CombineWrong_q2] at h
  unfold Lw_CombineWrong_P2 at h
  split at h
  · rw [← Lw_CombineWrong_e2]; exact h.out
  · exact h.elim)
theorem Lw_CombineWrong_n (Kv : VW) : obAt (Lw_CombineWrong_O Kv) 3 = none := by kernel_rfl
theorem Lw_CombineWrong_h (Kv : VW) : ∀ k, holdsAt Try.prog Lw_CombineWrong_E 88 (Lw_CombineWrong_O Kv) k := fun k => match k with
  | 0 => Lw_CombineWrong_h0 Kv
  | 1 => Lw_CombineWrong_h1 Kv
  | 2 => Lw_CombineWrong_h2 Kv
  | _k + 3 => holdsAt_ge (Lw_CombineWrong_n Kv) (Nat.le_add_left _ _)
theorem Lw_CombineWrong_ok : Sound Try.prog 5 Lw_CombineWrong_S := ⟨Try.call5, fun vs w Kv h => by
  unfold Lw_CombineWrong_S at h
  split at h
  · have h := h.out
    rw [Lw_CombineWrong_e] at h
    exact calls_sound (Γ := Lw_CombineWrong_E) progMixed ⟨.inl Lw_sanity_ok, .inl Rf_Made_ok, .inl Cb_Solve_ok, .inl Rf_Spoiled_ok, .inl Rf_Right_ok, .inl Rg_Mod_ok, trivial⟩ Try.func5 (code := Lw_CombineWrong_C) (by kernel_rfl) (Lw_CombineWrong_A Kv) Kv (holds_all (Lw_CombineWrong_h Kv)) (Nat.le_of_ble_eq_true (by kernel_rfl)) h
  · exact h.elim⟩
end Go.Proofs.Ytmkjcheafdionaa
