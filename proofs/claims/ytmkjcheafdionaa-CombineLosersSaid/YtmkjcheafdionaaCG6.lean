/- The bodies' formulas, by program. -/
import Derived.Test.YtmkjcheafdionaaProg
import Derived.KernelRfl
import Derived.Test.YtmkjcheafdionaaPwX
import Derived.Test.YtmkjcheafdionaaCG0
import Derived.Test.YtmkjcheafdionaaCG1
import Derived.Test.YtmkjcheafdionaaCG2
import Derived.Test.YtmkjcheafdionaaCG3
import Derived.Test.YtmkjcheafdionaaCG4
import Derived.Test.YtmkjcheafdionaaCG5
set_option maxRecDepth 20000
namespace Go.Proofs.Ytmkjcheafdionaa
open Go Pw
/-! Lw_example -/
def Lw_example_k0d (t_6 : Addr) (p_7 : Addr) (K : Sl → Sl → Sl → Int → Int → World → Prop) (w : World) : Prop :=
  ∃ x10 : Sl, w.cell? p_7 = some (Value.slice x10.p x10.l x10.c) ∧ ∃ x11 : Sl, w.cell? (p_7.add 1) = some (Value.slice x11.p x11.l x11.c) ∧ ∃ x12 : Sl, w.cell? (p_7.add 2) = some (Value.slice x12.p x12.l x12.c) ∧ ∃ x13 : Int, w.cell? (p_7.add 3) = some (Value.int .i64 x13) ∧ ∃ x14 : Int, w.cell? (p_7.add 4) = some (Value.int .i64 x14) ∧ stN w t_6 [(Value.slice x10.p x10.l x10.c), (Value.slice x11.p x11.l x11.c), (Value.slice x12.p x12.l x12.c), (Value.int .i64 x13), (Value.int .i64 x14)] fun (w15 : World) => ∃ x16 : Sl, w15.cell? t_6 = some (Value.slice x16.p x16.l x16.c) ∧ ∃ x17 : Sl, w15.cell? (t_6.add 1) = some (Value.slice x17.p x17.l x17.c) ∧ ∃ x18 : Sl, w15.cell? (t_6.add 2) = some (Value.slice x18.p x18.l x18.c) ∧ ∃ x19 : Int, w15.cell? (t_6.add 3) = some (Value.int .i64 x19) ∧ ∃ x20 : Int, w15.cell? (t_6.add 4) = some (Value.int .i64 x20) ∧ K x16 x17 x18 x19 x20 w15
structure Lw_example_k0 (t_6 : Addr) (p_7 : Addr) (K : Sl → Sl → Sl → Int → Int → World → Prop) (w : World) : Prop where
  out : Lw_example_k0d t_6 p_7 K w
def Lw_example_sd (budget_0 : Int) (most_1 : Int) (off_2 : Int) (K : Sl → Sl → Sl → Int → Int → World → Prop) (w : World) : Prop :=
  let w1 : World := w.alloc (Obj.cells #[(Value.slice none 0 0), (Value.slice none 0 0), (Value.slice none 0 0), (Value.int .i64 (0 : Int)), (Value.int .i64 (0 : Int))] 28)
  let w2 : World := w1.alloc (Obj.cells #[(Value.int .i64 (1 : Int)), (Value.int .i64 (2 : Int))] 3)
  let w3 : World := w2.alloc (Obj.cells #[(Value.slice none 0 0), (Value.slice none 0 0), (Value.slice none 0 0), (Value.int .i64 (0 : Int)), (Value.int .i64 (0 : Int))] 28)
  stN w3 (Addr.mk w2.heap.size 0 none) [(Value.slice (some (Addr.mk w1.heap.size 0 none)) 2 2), (Value.slice none 0 0), (Value.slice none 0 0), (Value.int .i64 most_1), (Value.int .i64 budget_0)] fun (w4 : World) => let w5 : World := w4.alloc (Obj.cells #[(Value.int .i64 (1 : Int)), (Value.int .i64 (5 : Int)), (Value.int .i64 (10 : Int)), (Value.int .i64 (8 : Int)), (Value.int .i64 (1 : Int)), (Value.int .i64 (6 : Int)), (Value.int .i64 (7 : Int)), (Value.int .i64 (6 : Int)), (Value.int .i64 (2 : Int)), (Value.int .i64 (5 : Int)), (Value.int .i64 (9 : Int)), (Value.int .i64 (7 : Int))] 56)
  wrOk w5 (Addr.mk w2.heap.size 1 none) ∧ 
  (let w6 : World := w5.setCell (Addr.mk w2.heap.size 1 none) (Value.slice (some (Addr.mk w4.heap.size 0 none)) 3 3)
  cnd (decide (off_2 > (0 : Int)))
    (let w7 : World := w6.alloc (Obj.cells #[(Value.int .i64 (1 : Int)), (Value.int .i64 (2 : Int))] 3)
  let w8 : World := w7.alloc (Obj.cells #[(Value.int .i64 (5 : Int)), (Value.slice (some (Addr.mk w6.heap.size 0 none)) 2 2), (Value.int .i64 off_2)] 58)
  wrOk w8 (Addr.mk w2.heap.size 2 none) ∧ 
  (let w9 : World := w8.setCell (Addr.mk w2.heap.size 2 none) (Value.slice (some (Addr.mk w7.heap.size 0 none)) 1 1)
  Lw_example_k0 (Addr.mk w.heap.size 0 none) (Addr.mk w2.heap.size 0 none) K w9))
    (Lw_example_k0 (Addr.mk w.heap.size 0 none) (Addr.mk w2.heap.size 0 none) K w6))
structure Lw_example_sh (budget_0 : Int) (most_1 : Int) (off_2 : Int) (K : Sl → Sl → Sl → Int → Int → World → Prop) (w : World) : Prop where
  out : Lw_example_sd budget_0 most_1 off_2 K w
def Lw_example_P0 (Kv : VW) (ρ : Rho) (vs : List Value) (w : World) : Prop :=
  match ρ, vs with
  | _, [.pointer (some t_6), .pointer (some p_7)] => Lw_example_k0 t_6 p_7 (fun (r0_0 : Sl) (r0_1 : Sl) (r0_2 : Sl) (r0_3 : Int) (r0_4 : Int) (w' : World) => Kv (Value.agg #[(Value.slice r0_0.p r0_0.l r0_0.c), (Value.slice r0_1.p r0_1.l r0_1.c), (Value.slice r0_2.p r0_2.l r0_2.c), (Value.int .i64 r0_3), (Value.int .i64 r0_4)]) w') w
  | _, _ => False
noncomputable def Lw_example_S : Pw.Spec := fun vs w Kv =>
  match vs with
  | [.int .i64 budget_0, .int .i64 most_1, .int .i64 off_2] => Lw_example_sh budget_0 most_1 off_2 (fun (r0_0 : Sl) (r0_1 : Sl) (r0_2 : Sl) (r0_3 : Int) (r0_4 : Int) (w' : World) => Kv (Value.agg #[(Value.slice r0_0.p r0_0.l r0_0.c), (Value.slice r0_1.p r0_1.l r0_1.c), (Value.slice r0_2.p r0_2.l r0_2.c), (Value.int .i64 r0_3), (Value.int .i64 r0_4)]) w') w
  | _ => False
noncomputable def Lw_example_E : Pw.Env := []
noncomputable def Lw_example_C : Code := (Try.f18.body).getD .skip
noncomputable def Lw_example_A (Kv : VW) : Pw.A :=
  (A.seq (A.reg (RA.run RA.done))
   (A.seq (A.reg (RA.run (RA.run (RA.run (RA.run (RA.run (RA.run RA.done)))))))
   (A.seq (A.reg (RA.run (RA.run (RA.run (RA.run (RA.run (RA.run RA.done)))))))
   (A.seq (A.seq (A.reg (RA.run (RA.run RA.done)))
   (A.cond (A.reg (RA.run (RA.run (RA.run (RA.run (RA.run (RA.run RA.done)))))))
   A.leaf))
   (A.cut [6, 7] (Lw_example_P0 Kv) (A.seq (A.reg (RA.run (RA.run RA.done)))
   A.leaf))))))
noncomputable def Lw_example_O (Kv : VW) : List Ob := (obs Try.prog Lw_example_E 25 (Lw_example_A Kv) Lw_example_C (fun _ => retQ Try.prog Try.f18.results Kv))
theorem Lw_example_e (Kv : VW) (budget_0 : Int) (most_1 : Int) (off_2 : Int) (w : World) : Lw_example_sd budget_0 most_1 off_2 (fun (r0_0 : Sl) (r0_1 : Sl) (r0_2 : Sl) (r0_3 : Int) (r0_4 : Int) (w' : World) => Kv (Value.agg #[(Value.slice r0_0.p r0_0.l r0_0.c), (Value.slice r0_1.p r0_1.l r0_1.c), (Value.slice r0_2.p r0_2.l r0_2.c), (Value.int .i64 r0_3), (Value.int .i64 r0_4)]) w') w = W Try.prog Lw_example_E 25 (Lw_example_A Kv) Lw_example_C [] (retQ Try.prog Try.f18.results Kv) [] (startS [(Value.int .i64 budget_0), (Value.int .i64 most_1), (Value.int .i64 off_2)]) w := by kernel_rfl
theorem Lw_example_e0 (Kv : VW) (ρ : Rho) (t_6 : Addr) (p_7 : Addr) (w : World) : Lw_example_k0d t_6 p_7 (fun (r0_0 : Sl) (r0_1 : Sl) (r0_2 : Sl) (r0_3 : Int) (r0_4 : Int) (w' : World) => Kv (Value.agg #[(Value.slice r0_0.p r0_0.l r0_0.c), (Value.slice r0_1.p r0_1.l r0_1.c), (Value.slice r0_2.p r0_2.l r0_2.c), (Value.int .i64 r0_3), (Value.int .i64 r0_4)]) w') w = goalAt Try.prog Lw_example_E 25 (Lw_example_O Kv) 0 (ρ) [(Value.pointer (some t_6)), (Value.pointer (some p_7))] w := by kernel_rfl
theorem Lw_example_q0 (Kv : VW) (ρ : Rho) (vs : List Value) (w : World) : labAt (Lw_example_O Kv) 0 ρ vs w = Lw_example_P0 Kv ρ vs w := by kernel_rfl
theorem Lw_example_h0 (Kv : VW) : holdsAt Try.prog Lw_example_E 25 (Lw_example_O Kv) 0 := holdsAt_cut (.inl (by kernel_rfl)) (fun ρ vs w h => by
  rw [Lw_example_q0] at h
  unfold Lw_example_P0 at h
  split at h
  · rw [← Lw_example_e0]; exact h.out
  · exact h.elim)
theorem Lw_example_n (Kv : VW) : obAt (Lw_example_O Kv) 1 = none := by kernel_rfl
theorem Lw_example_h (Kv : VW) : ∀ k, holdsAt Try.prog Lw_example_E 25 (Lw_example_O Kv) k := fun k => match k with
  | 0 => Lw_example_h0 Kv
  | _k + 1 => holdsAt_ge (Lw_example_n Kv) (Nat.le_add_left _ _)
theorem Lw_example_ok : Sound Try.prog 18 Lw_example_S := ⟨Try.call18, fun vs w Kv h => by
  unfold Lw_example_S at h
  split at h
  · have h := h.out
    rw [Lw_example_e] at h
    exact calls_sound (Γ := Lw_example_E) progMixed trivial Try.func18 (code := Lw_example_C) (by kernel_rfl) (Lw_example_A Kv) Kv (holds_all (Lw_example_h Kv)) (Nat.le_of_ble_eq_true (by kernel_rfl)) h
  · exact h.elim⟩
/-! Lw_takes -/
def Lw_takes_sd (p_0_0 : Sl) (p_0_1 : Sl) (p_0_2 : Sl) (p_0_3 : Int) (p_0_4 : Int) (want_1 : Sl) (points_2 : Int) (K : Bool → World → Prop) (w : World) : Prop :=
  let w1 : World := w.alloc (Obj.cells #[(Value.slice p_0_0.p p_0_0.l p_0_0.c), (Value.slice p_0_1.p p_0_1.l p_0_1.c), (Value.slice p_0_2.p p_0_2.l p_0_2.c), (Value.int .i64 p_0_3), (Value.int .i64 p_0_4)] 28)
  ∃ x2 : Sl, w1.cell? (Addr.mk w.heap.size 0 none) = some (Value.slice x2.p x2.l x2.c) ∧ ∃ x3 : Sl, w1.cell? (Addr.mk w.heap.size 1 none) = some (Value.slice x3.p x3.l x3.c) ∧ ∃ x4 : Sl, w1.cell? (Addr.mk w.heap.size 2 none) = some (Value.slice x4.p x4.l x4.c) ∧ ∃ x5 : Int, w1.cell? (Addr.mk w.heap.size 3 none) = some (Value.int .i64 x5) ∧ ∃ x6 : Int, w1.cell? (Addr.mk w.heap.size 4 none) = some (Value.int .i64 x6) ∧ Cb_Solve_sh x2 x3 x4 x5 x6 (1000 : Int) (fun (r8_0 : Sl) (r8_1 : Int) (r8_2 : Int) (r8_3 : Sl) (r9 : Int) (w7 : World) => let w10 : World := w7.alloc (Obj.cells #[(Value.slice none 0 0), (Value.int .i64 (0 : Int)), (Value.int .i64 (0 : Int)), (Value.slice none 0 0)] 33)
  stN w10 (Addr.mk w7.heap.size 0 none) [(Value.slice r8_0.p r8_0.l r8_0.c), (Value.int .i64 r8_1), (Value.int .i64 r8_2), (Value.slice r8_3.p r8_3.l r8_3.c)] fun (w11 : World) => cnd (r9 == (0 : Int))
    (∃ x12 : Sl, w11.cell? (Addr.mk w7.heap.size 0 none) = some (Value.slice x12.p x12.l x12.c) ∧ Rf_Ints_sh x12 want_1 (fun (r14 : Bool) (w13 : World) => cnd r14
    (∃ x15 : Int, w13.cell? (Addr.mk w7.heap.size 1 none) = some (Value.int .i64 x15) ∧ cnd (x15 == points_2)
    (∃ x16 : Int, w13.cell? (Addr.mk w7.heap.size 2 none) = some (Value.int .i64 x16) ∧ K (x16 == points_2) w13)
    (K false w13))
    (K false w13)) w11)
    (K false w11)) w1
structure Lw_takes_sh (p_0_0 : Sl) (p_0_1 : Sl) (p_0_2 : Sl) (p_0_3 : Int) (p_0_4 : Int) (want_1 : Sl) (points_2 : Int) (K : Bool → World → Prop) (w : World) : Prop where
  out : Lw_takes_sd p_0_0 p_0_1 p_0_2 p_0_3 p_0_4 want_1 points_2 K w
noncomputable def Lw_takes_S : Pw.Spec := fun vs w Kv =>
  match vs with
  | [.agg ⟨[.slice p_0_0p p_0_0l p_0_0c, .slice p_0_1p p_0_1l p_0_1c, .slice p_0_2p p_0_2l p_0_2c, .int .i64 p_0_3, .int .i64 p_0_4]⟩, .slice want_1p want_1l want_1c, .int .i64 points_2] => Lw_takes_sh ⟨p_0_0p, p_0_0l, p_0_0c⟩ ⟨p_0_1p, p_0_1l, p_0_1c⟩ ⟨p_0_2p, p_0_2l, p_0_2c⟩ p_0_3 p_0_4 ⟨want_1p, want_1l, want_1c⟩ points_2 (fun (r0 : Bool) (w' : World) => Kv (Value.bool r0) w') w
  | _ => False
noncomputable def Lw_takes_E : Pw.Env := [(10, Cb_Solve_S), (33, Rf_Ints_S)]
noncomputable def Lw_takes_C : Code := (Try.f17.body).getD .skip
noncomputable def Lw_takes_A (_Kv : VW) : Pw.A :=
  (A.seq (A.reg (RA.run (RA.run RA.done)))
   (A.seq (A.reg (RA.run (RA.run (RA.run (RA.run (RA.run (RA.run (RA.run (RA.run RA.done)))))))))
   (A.seq (A.reg (RA.run (RA.run (RA.run (RA.spl 16 (RA.run (RA.run (RA.run (RA.run (RA.run (RA.run (RA.spl 22 (RA.run (RA.run (RA.run (RA.run (RA.run (RA.run (RA.spl 28 (RA.run (RA.run (RA.run (RA.run (RA.run (RA.run RA.done)))))) (RA.skp (RA.skp (RA.skp (RA.skp (RA.run (RA.run RA.done))))))))))))) (RA.skp (RA.skp (RA.skp (RA.skp (RA.run (RA.run (RA.skp (RA.skp (RA.skp (RA.skp (RA.run (RA.run RA.done))))))))))))))))))) (RA.skp (RA.skp (RA.skp (RA.skp (RA.run (RA.run (RA.skp (RA.skp (RA.skp (RA.skp (RA.run (RA.run (RA.skp (RA.skp (RA.skp (RA.skp (RA.run (RA.run RA.done)))))))))))))))))))))))
   A.leaf)))
noncomputable def Lw_takes_O (Kv : VW) : List Ob := (obs Try.prog Lw_takes_E 34 (Lw_takes_A Kv) Lw_takes_C (fun _ => retQ Try.prog Try.f17.results Kv))
theorem Lw_takes_e (Kv : VW) (p_0_0p : Option Addr) (p_0_0l p_0_0c : Nat) (p_0_1p : Option Addr) (p_0_1l p_0_1c : Nat) (p_0_2p : Option Addr) (p_0_2l p_0_2c : Nat) (p_0_3 : Int) (p_0_4 : Int) (want_1p : Option Addr) (want_1l want_1c : Nat) (points_2 : Int) (w : World) : Lw_takes_sd ⟨p_0_0p, p_0_0l, p_0_0c⟩ ⟨p_0_1p, p_0_1l, p_0_1c⟩ ⟨p_0_2p, p_0_2l, p_0_2c⟩ p_0_3 p_0_4 ⟨want_1p, want_1l, want_1c⟩ points_2 (fun (r0 : Bool) (w' : World) => Kv (Value.bool r0) w') w = W Try.prog Lw_takes_E 34 (Lw_takes_A Kv) Lw_takes_C [] (retQ Try.prog Try.f17.results Kv) [] (startS [(Value.agg #[(Value.slice p_0_0p p_0_0l p_0_0c), (Value.slice p_0_1p p_0_1l p_0_1c), (Value.slice p_0_2p p_0_2l p_0_2c), (Value.int .i64 p_0_3), (Value.int .i64 p_0_4)]), (Value.slice want_1p want_1l want_1c), (Value.int .i64 points_2)]) w := by kernel_rfl
theorem Lw_takes_n (Kv : VW) : obAt (Lw_takes_O Kv) 0 = none := by kernel_rfl
theorem Lw_takes_h (Kv : VW) : ∀ k, holdsAt Try.prog Lw_takes_E 34 (Lw_takes_O Kv) k := fun _ => holdsAt_ge (Lw_takes_n Kv) (Nat.zero_le _)
theorem Lw_takes_ok : Sound Try.prog 17 Lw_takes_S := ⟨Try.call17, fun vs w Kv h => by
  unfold Lw_takes_S at h
  split at h
  · have h := h.out
    rw [Lw_takes_e] at h
    exact calls_sound (Γ := Lw_takes_E) progMixed ⟨.inl Cb_Solve_ok, .inl Rf_Ints_ok, trivial⟩ Try.func17 (code := Lw_takes_C) (by kernel_rfl) (Lw_takes_A Kv) Kv (holds_all (Lw_takes_h Kv)) (Nat.le_of_ble_eq_true (by kernel_rfl)) h
  · exact h.elim⟩
/-! Lw_sanity -/
def Lw_sanity_k1d (one_1 : Bool) (two_2 : Bool) (K : Bool → World → Prop) (w : World) : Prop :=
  Lw_example_sh (18 : Int) (0 : Int) (1 : Int) (fun (r27_0 : Sl) (r27_1 : Sl) (r27_2 : Sl) (r27_3 : Int) (r27_4 : Int) (w26 : World) => let w28 : World := w26.alloc (Obj.cells #[(Value.int .i64 (0 : Int)), (Value.int .i64 (2 : Int))] 3)
  Cb_Paid_sh r27_0 r27_1 r27_2 r27_3 r27_4 (Sl.mk (some (Addr.mk w26.heap.size 0 none)) 2 2) (fun (r30 : Int) (r31 : Bool) (w29 : World) => cnd one_1
    (cnd two_2
    (cnd (r30 == (18 : Int))
    (K r31 w29)
    (K false w29))
    (K false w29))
    (K false w29)) w28) w
structure Lw_sanity_k1 (one_1 : Bool) (two_2 : Bool) (K : Bool → World → Prop) (w : World) : Prop where
  out : Lw_sanity_k1d one_1 two_2 K w
def Lw_sanity_k0d (one_1 : Bool) (K : Bool → World → Prop) (w : World) : Prop :=
  Lw_example_sh (19 : Int) (1 : Int) (0 : Int) (fun (r17_0 : Sl) (r17_1 : Sl) (r17_2 : Sl) (r17_3 : Int) (r17_4 : Int) (w16 : World) => let w18 : World := w16.alloc (Obj.cells #[(Value.int .i64 (1 : Int)), (Value.int .i64 (2 : Int))] 3)
  Lw_takes_sh r17_0 r17_1 r17_2 r17_3 r17_4 (Sl.mk (some (Addr.mk w16.heap.size 0 none)) 2 2) (13 : Int) (fun (r20 : Bool) (w19 : World) => cnd r20
    (Lw_example_sh (6 : Int) (0 : Int) (0 : Int) (fun (r22_0 : Sl) (r22_1 : Sl) (r22_2 : Sl) (r22_3 : Int) (r22_4 : Int) (w21 : World) => let w23 : World := w21.alloc (Obj.cells #[(Value.int .i64 (-1 : Int)), (Value.int .i64 (-1 : Int))] 3)
  Lw_takes_sh r22_0 r22_1 r22_2 r22_3 r22_4 (Sl.mk (some (Addr.mk w21.heap.size 0 none)) 2 2) (0 : Int) (fun (r25 : Bool) (w24 : World) => Lw_sanity_k1 one_1 r25 K w24) w23) w19)
    (Lw_sanity_k1 one_1 false K w19)) w18) w
structure Lw_sanity_k0 (one_1 : Bool) (K : Bool → World → Prop) (w : World) : Prop where
  out : Lw_sanity_k0d one_1 K w
def Lw_sanity_sd (K : Bool → World → Prop) (w : World) : Prop :=
  Lw_example_sh (19 : Int) (0 : Int) (0 : Int) (fun (r2_0 : Sl) (r2_1 : Sl) (r2_2 : Sl) (r2_3 : Int) (r2_4 : Int) (w1 : World) => let w3 : World := w1.alloc (Obj.cells #[(Value.int .i64 (0 : Int)), (Value.int .i64 (2 : Int))] 3)
  Lw_takes_sh r2_0 r2_1 r2_2 r2_3 r2_4 (Sl.mk (some (Addr.mk w1.heap.size 0 none)) 2 2) (15 : Int) (fun (r5 : Bool) (w4 : World) => cnd r5
    (Lw_example_sh (18 : Int) (0 : Int) (0 : Int) (fun (r7_0 : Sl) (r7_1 : Sl) (r7_2 : Sl) (r7_3 : Int) (r7_4 : Int) (w6 : World) => let w8 : World := w6.alloc (Obj.cells #[(Value.int .i64 (1 : Int)), (Value.int .i64 (2 : Int))] 3)
  Lw_takes_sh r7_0 r7_1 r7_2 r7_3 r7_4 (Sl.mk (some (Addr.mk w6.heap.size 0 none)) 2 2) (13 : Int) (fun (r10 : Bool) (w9 : World) => cnd r10
    (Lw_example_sh (18 : Int) (0 : Int) (1 : Int) (fun (r12_0 : Sl) (r12_1 : Sl) (r12_2 : Sl) (r12_3 : Int) (r12_4 : Int) (w11 : World) => let w13 : World := w11.alloc (Obj.cells #[(Value.int .i64 (0 : Int)), (Value.int .i64 (2 : Int))] 3)
  Lw_takes_sh r12_0 r12_1 r12_2 r12_3 r12_4 (Sl.mk (some (Addr.mk w11.heap.size 0 none)) 2 2) (15 : Int) (fun (r15 : Bool) (w14 : World) => Lw_sanity_k0 r15 K w14) w13) w9)
    (Lw_sanity_k0 false K w9)) w8) w4)
    (Lw_sanity_k0 false K w4)) w3) w
structure Lw_sanity_sh (K : Bool → World → Prop) (w : World) : Prop where
  out : Lw_sanity_sd K w
def Lw_sanity_P0 (Kv : VW) (ρ : Rho) (vs : List Value) (w : World) : Prop :=
  match ρ, vs with
  | _, [.bool one_1] => Lw_sanity_k0 one_1 (fun (r0 : Bool) (w' : World) => Kv (Value.bool r0) w') w
  | _, _ => False
def Lw_sanity_P1 (Kv : VW) (ρ : Rho) (vs : List Value) (w : World) : Prop :=
  match ρ, vs with
  | _, [.bool one_1, .bool two_2] => Lw_sanity_k1 one_1 two_2 (fun (r0 : Bool) (w' : World) => Kv (Value.bool r0) w') w
  | _, _ => False
noncomputable def Lw_sanity_S : Pw.Spec := fun vs w Kv =>
  match vs with
  | [] => Lw_sanity_sh (fun (r0 : Bool) (w' : World) => Kv (Value.bool r0) w') w
  | _ => False
noncomputable def Lw_sanity_E : Pw.Env := [(15, Cb_Paid_S), (17, Lw_takes_S), (18, Lw_example_S)]
noncomputable def Lw_sanity_C : Code := (Try.f7.body).getD .skip
noncomputable def Lw_sanity_A (Kv : VW) : Pw.A :=
  (A.seq (A.reg (RA.run RA.done))
   (A.seq (A.reg (RA.run (RA.run (RA.run (RA.run (RA.spl 8 (RA.run (RA.run (RA.run (RA.run (RA.run (RA.spl 13 (RA.run (RA.run (RA.run (RA.run (RA.run RA.done))))) (RA.skp (RA.skp (RA.skp (RA.run (RA.run RA.done))))))))))) (RA.skp (RA.skp (RA.skp (RA.run (RA.run (RA.skp (RA.skp (RA.skp (RA.run (RA.run RA.done))))))))))))))))
   (A.cut [1] (Lw_sanity_P0 Kv) (A.seq (A.reg (RA.run (RA.run (RA.run (RA.run (RA.spl 21 (RA.run (RA.run (RA.run (RA.run (RA.run RA.done))))) (RA.skp (RA.skp (RA.skp (RA.run (RA.run RA.done)))))))))))
   (A.cut [1, 2] (Lw_sanity_P1 Kv) (A.seq (A.reg (RA.run (RA.run (RA.run (RA.run (RA.run (RA.run (RA.run (RA.run RA.done)))))))))
   (A.seq (A.reg (RA.run (RA.run (RA.spl 33 (RA.run (RA.run (RA.run (RA.spl 36 (RA.run (RA.run (RA.run (RA.run (RA.spl 40 (RA.run (RA.run (RA.run RA.done))) (RA.skp (RA.run (RA.run RA.done)))))))) (RA.skp (RA.skp (RA.run (RA.run (RA.skp (RA.run (RA.run RA.done))))))))))) (RA.skp (RA.run (RA.run (RA.skp (RA.skp (RA.run (RA.run (RA.skp (RA.run (RA.run RA.done))))))))))))))
   A.leaf)))))))
noncomputable def Lw_sanity_O (Kv : VW) : List Ob := (obs Try.prog Lw_sanity_E 43 (Lw_sanity_A Kv) Lw_sanity_C (fun _ => retQ Try.prog Try.f7.results Kv))
theorem Lw_sanity_e (Kv : VW) (w : World) : Lw_sanity_sd (fun (r0 : Bool) (w' : World) => Kv (Value.bool r0) w') w = W Try.prog Lw_sanity_E 43 (Lw_sanity_A Kv) Lw_sanity_C [] (retQ Try.prog Try.f7.results Kv) [] (startS []) w := by kernel_rfl
theorem Lw_sanity_e0 (Kv : VW) (ρ : Rho) (one_1 : Bool) (w : World) : Lw_sanity_k0d one_1 (fun (r0 : Bool) (w' : World) => Kv (Value.bool r0) w') w = goalAt Try.prog Lw_sanity_E 43 (Lw_sanity_O Kv) 0 (ρ) [(Value.bool one_1)] w := by kernel_rfl
theorem Lw_sanity_q0 (Kv : VW) (ρ : Rho) (vs : List Value) (w : World) : labAt (Lw_sanity_O Kv) 0 ρ vs w = Lw_sanity_P0 Kv ρ vs w := by kernel_rfl
theorem Lw_sanity_h0 (Kv : VW) : holdsAt Try.prog Lw_sanity_E 43 (Lw_sanity_O Kv) 0 := holdsAt_cut (.inl (by kernel_rfl)) (fun ρ vs w h => by
  rw [Lw_sanity_q0] at h
  unfold Lw_sanity_P0 at h
  split at h
  · rw [← Lw_sanity_e0]; exact h.out
  · exact h.elim)
theorem Lw_sanity_e1 (Kv : VW) (ρ : Rho) (one_1 : Bool) (two_2 : Bool) (w : World) : Lw_sanity_k1d one_1 two_2 (fun (r0 : Bool) (w' : World) => Kv (Value.bool r0) w') w = goalAt Try.prog Lw_sanity_E 43 (Lw_sanity_O Kv) 1 (ρ) [(Value.bool one_1), (Value.bool two_2)] w := by kernel_rfl
theorem Lw_sanity_q1 (Kv : VW) (ρ : Rho) (vs : List Value) (w : World) : labAt (Lw_sanity_O Kv) 1 ρ vs w = Lw_sanity_P1 Kv ρ vs w := by kernel_rfl
theorem Lw_sanity_h1 (Kv : VW) : holdsAt Try.prog Lw_sanity_E 43 (Lw_sanity_O Kv) 1 := holdsAt_cut (.inl (by kernel_rfl)) (fun ρ vs w h => by
  rw [Lw_sanity_q1] at h
  unfold Lw_sanity_P1 at h
  split at h
  · rw [← Lw_sanity_e1]; exact h.out
  · exact h.elim)
theorem Lw_sanity_n (Kv : VW) : obAt (Lw_sanity_O Kv) 2 = none := by kernel_rfl
theorem Lw_sanity_h (Kv : VW) : ∀ k, holdsAt Try.prog Lw_sanity_E 43 (Lw_sanity_O Kv) k := fun k => match k with
  | 0 => Lw_sanity_h0 Kv
  | 1 => Lw_sanity_h1 Kv
  | _k + 2 => holdsAt_ge (Lw_sanity_n Kv) (Nat.le_add_left _ _)
theorem Lw_sanity_ok : Sound Try.prog 7 Lw_sanity_S := ⟨Try.call7, fun vs w Kv h => by
  unfold Lw_sanity_S at h
  split at h
  · have h := h.out
    rw [Lw_sanity_e] at h
    exact calls_sound (Γ := Lw_sanity_E) progMixed ⟨.inl Cb_Paid_ok, .inl Lw_takes_ok, .inl Lw_example_ok, trivial⟩ Try.func7 (code := Lw_sanity_C) (by kernel_rfl) (Lw_sanity_A Kv) Kv (holds_all (Lw_sanity_h Kv)) (Nat.le_of_ble_eq_true (by kernel_rfl)) h
  · exact h.elim⟩
/-! Lw_CombineLosers -/
def Lw_CombineLosers_k2d (up_5 : Bool) (a_8 : Addr) (k_10 : Int) (b_13 : Addr) (i_15 : Int) (n_16 : Int) (N1 : Bool → Addr → Int → Addr → Int → World → Prop) (K : Bool → World → Prop) (w : World) : Prop :=
  ∃ x67 : Sl, w.cell? b_13 = some (Value.slice x67.p x67.l x67.c) ∧ nz x67.p fun a68 => (0 ≤ i_15 ∧ i_15 < (x67.l : Nat)) ∧ ∃ x69 : Int, w.cell? (a68.add (i_15.toNat * 1)) = some (Value.int .i64 x69) ∧ cnd (x69 != n_16)
    (K false w)
    (inR .i64 (i_15 + (1 : Int)) ∧ N1 up_5 a_8 k_10 b_13 (i_15 + (1 : Int)) w)
structure Lw_CombineLosers_k2 (up_5 : Bool) (a_8 : Addr) (k_10 : Int) (b_13 : Addr) (i_15 : Int) (n_16 : Int) (N1 : Bool → Addr → Int → Addr → Int → World → Prop) (K : Bool → World → Prop) (w : World) : Prop where
  out : Lw_CombineLosers_k2d up_5 a_8 k_10 b_13 i_15 n_16 N1 K w
def Lw_CombineLosers_b1 (up_5 : Bool) (a_8 : Addr) (k_10 : Int) (b_13 : Addr) (i_15 : Int) (N1 : Bool → Addr → Int → Addr → Int → World → Prop) (K : Bool → World → Prop) (w : World) : Prop :=
  ∃ x63 : Sl, w.cell? a_8 = some (Value.slice x63.p x63.l x63.c) ∧ cnd (decide (i_15 < (x63.l : Int)))
    (∃ x64 : Sl, w.cell? a_8 = some (Value.slice x64.p x64.l x64.c) ∧ nz x64.p fun a65 => (0 ≤ i_15 ∧ i_15 < (x64.l : Nat)) ∧ ∃ x66 : Int, w.cell? (a65.add (i_15.toNat * 1)) = some (Value.int .i64 x66) ∧ cnd (decide (x66 > k_10))
    (inR .i64 (x66 - (1 : Int)) ∧ Lw_CombineLosers_k2 up_5 a_8 k_10 b_13 i_15 (x66 - (1 : Int)) N1 K w)
    (Lw_CombineLosers_k2 up_5 a_8 k_10 b_13 i_15 x66 N1 K w))
    (K up_5 w)
def Lw_CombineLosers_l1d (up_5 : Bool) (a_8 : Addr) (k_10 : Int) (b_13 : Addr) (i_15 : Int) (K : Bool → World → Prop) (w : World) : Prop :=
  ∃ (I : Int → World → Prop) (μ : Int → World → Nat), I i_15 w ∧ ∀ (i_151 : Int) (w1 : World), I i_151 w1 →
    Lw_CombineLosers_b1 up_5 a_8 k_10 b_13 i_151 (fun (up_5' : Bool) (a_8' : Addr) (k_10' : Int) (b_13' : Addr) (i_15' : Int) (w' : World) => ((up_5' = up_5 ∧ a_8' = a_8 ∧ k_10' = k_10 ∧ b_13' = b_13 ∧ True) ∧ I i_15' w') ∧ μ i_15' w' < μ i_151 w1) K w1
structure Lw_CombineLosers_l1 (up_5 : Bool) (a_8 : Addr) (k_10 : Int) (b_13 : Addr) (i_15 : Int) (K : Bool → World → Prop) (w : World) : Prop where
  out : Lw_CombineLosers_l1d up_5 a_8 k_10 b_13 i_15 K w
def Lw_CombineLosers_b0 (up_5 : Bool) (p_6 : Addr) (work_7 : Int) (a_8 : Addr) (k_10 : Int) (i_11 : Int) (N0 : Bool → Addr → Int → Addr → Int → Int → World → Prop) (K : Bool → World → Prop) (w : World) : Prop :=
  ∃ x28 : Sl, w.cell? a_8 = some (Value.slice x28.p x28.l x28.c) ∧ cnd (decide (i_11 < (x28.l : Int)))
    (∃ x29 : Sl, w.cell? a_8 = some (Value.slice x29.p x29.l x29.c) ∧ nz x29.p fun a30 => (0 ≤ i_11 ∧ i_11 < (x29.l : Nat)) ∧ ∃ x31 : Int, w.cell? (a30.add (i_11.toNat * 1)) = some (Value.int .i64 x31) ∧ cnd (x31 == k_10)
    (K up_5 w)
    (inR .i64 (i_11 + (1 : Int)) ∧ N0 up_5 p_6 work_7 a_8 k_10 (i_11 + (1 : Int)) w))
    (∃ x32 : Sl, w.cell? p_6 = some (Value.slice x32.p x32.l x32.c) ∧ ∃ x33 : Sl, w.cell? (p_6.add 1) = some (Value.slice x33.p x33.l x33.c) ∧ ∃ x34 : Sl, w.cell? (p_6.add 2) = some (Value.slice x34.p x34.l x34.c) ∧ ∃ x35 : Int, w.cell? (p_6.add 3) = some (Value.int .i64 x35) ∧ ∃ x36 : Int, w.cell? (p_6.add 4) = some (Value.int .i64 x36) ∧ let w37 : World := w.alloc (Obj.cells #[(Value.slice none 0 0), (Value.slice none 0 0), (Value.slice none 0 0), (Value.int .i64 (0 : Int)), (Value.int .i64 (0 : Int))] 28)
  stN w37 (Addr.mk w.heap.size 0 none) [(Value.slice x32.p x32.l x32.c), (Value.slice x33.p x33.l x33.c), (Value.slice x34.p x34.l x34.c), (Value.int .i64 x35), (Value.int .i64 x36)] fun (w38 : World) => let w39 : World := w38.drew
  ∃ S40 : World → Prop, S40 w39 ∧ ∃ x41 : Sl, (∀ w' : World, S40 w' → w'.cell? (p_6.add 1) = some (Value.slice x41.p x41.l x41.c)) ∧ (0 ≤ (0 : Int) ∧ (0 : Int) ≤ k_10 ∧ k_10 ≤ (x41.c : Nat)) ∧ ∃ x42 : Sl, (∀ w' : World, S40 w' → w'.cell? (p_6.add 1) = some (Value.slice x42.p x42.l x42.c)) ∧ inR .i64 (k_10 + (1 : Int)) ∧ (0 ≤ (k_10 + (1 : Int)) ∧ (k_10 + (1 : Int)) ≤ (x42.l : Nat)) ∧ let w43 : World := w39.alloc (Obj.cells #[] 56)
  S40 w43 ∧ apS 4 32 [(Value.int .i64 (0 : Int)), (Value.int .i64 (0 : Int)), (Value.int .i64 (0 : Int)), (Value.int .i64 (0 : Int))] 56 (Sl.mk (some (Addr.mk w39.heap.size 0 none)) 0 0) (Sl.mk (subP x41.p 0 x41.c 4) (k_10.toNat - 0) (x41.c - 0)) w43 fun (s44 : Sl) (w45 : World) => S40 w45 ∧ apS 4 32 [(Value.int .i64 (0 : Int)), (Value.int .i64 (0 : Int)), (Value.int .i64 (0 : Int)), (Value.int .i64 (0 : Int))] 56 s44 (Sl.mk (subP x42.p (k_10 + (1 : Int)).toNat x42.c 4) (x42.l - (k_10 + (1 : Int)).toNat) (x42.c - (k_10 + (1 : Int)).toNat)) w45 fun (s46 : Sl) (w47 : World) => S40 w47 ∧ wrOk w47 (Addr.mk w.heap.size 1 none) ∧ 
  (let w48 : World := w47.setCell (Addr.mk w.heap.size 1 none) (Value.slice s46.p s46.l s46.c)
  ∃ x49 : Sl, w48.cell? (Addr.mk w.heap.size 0 none) = some (Value.slice x49.p x49.l x49.c) ∧ ∃ x50 : Sl, w48.cell? (Addr.mk w.heap.size 1 none) = some (Value.slice x50.p x50.l x50.c) ∧ ∃ x51 : Sl, w48.cell? (Addr.mk w.heap.size 2 none) = some (Value.slice x51.p x51.l x51.c) ∧ ∃ x52 : Int, w48.cell? (Addr.mk w.heap.size 3 none) = some (Value.int .i64 x52) ∧ ∃ x53 : Int, w48.cell? (Addr.mk w.heap.size 4 none) = some (Value.int .i64 x53) ∧ Cb_Solve_sh x49 x50 x51 x52 x53 work_7 (fun (r55_0 : Sl) (r55_1 : Int) (r55_2 : Int) (r55_3 : Sl) (r56 : Int) (w54 : World) => let w57 : World := w54.alloc (Obj.cells #[(Value.slice none 0 0), (Value.int .i64 (0 : Int)), (Value.int .i64 (0 : Int)), (Value.slice none 0 0)] 33)
  stN w57 (Addr.mk w54.heap.size 0 none) [(Value.slice r55_0.p r55_0.l r55_0.c), (Value.int .i64 r55_1), (Value.int .i64 r55_2), (Value.slice r55_3.p r55_3.l r55_3.c)] fun (w58 : World) => cnd (r56 != (0 : Int))
    (K false w58)
    (∃ x59 : Sl, w58.cell? (Addr.mk w54.heap.size 0 none) = some (Value.slice x59.p x59.l x59.c) ∧ ∃ x60 : Sl, w58.cell? a_8 = some (Value.slice x60.p x60.l x60.c) ∧ cnd ((x59.l : Int) != (x60.l : Int))
    (K false w58)
    (∃ x61 : Int, w58.cell? (Addr.mk w54.heap.size 1 none) = some (Value.int .i64 x61) ∧ ∃ x62 : Int, w58.cell? (a_8.add 1) = some (Value.int .i64 x62) ∧ cnd (x61 != x62)
    (K false w58)
    (Lw_CombineLosers_l1 up_5 a_8 k_10 (Addr.mk w54.heap.size 0 none) (0 : Int) K w58)))) w48))
def Lw_CombineLosers_l0d (up_5 : Bool) (p_6 : Addr) (work_7 : Int) (a_8 : Addr) (k_10 : Int) (i_11 : Int) (K : Bool → World → Prop) (w : World) : Prop :=
  ∃ (I : Int → World → Prop) (μ : Int → World → Nat), I i_11 w ∧ ∀ (i_111 : Int) (w1 : World), I i_111 w1 →
    Lw_CombineLosers_b0 up_5 p_6 work_7 a_8 k_10 i_111 (fun (up_5' : Bool) (p_6' : Addr) (work_7' : Int) (a_8' : Addr) (k_10' : Int) (i_11' : Int) (w' : World) => ((up_5' = up_5 ∧ p_6' = p_6 ∧ work_7' = work_7 ∧ a_8' = a_8 ∧ k_10' = k_10 ∧ True) ∧ I i_11' w') ∧ μ i_11' w' < μ i_111 w1) K w1
structure Lw_CombineLosers_l0 (up_5 : Bool) (p_6 : Addr) (work_7 : Int) (a_8 : Addr) (k_10 : Int) (i_11 : Int) (K : Bool → World → Prop) (w : World) : Prop where
  out : Lw_CombineLosers_l0d up_5 p_6 work_7 a_8 k_10 i_11 K w
def Lw_CombineLosers_sd (l_0 : Sl) (which_1 : Int) (K : Bool → World → Prop) (w : World) : Prop :=
  Lw_sanity_sh (fun (r2 : Bool) (w1 : World) => Rf_Made_sh l_0 (fun (r4_0 : Sl) (r4_1 : Sl) (r4_2 : Sl) (r4_3 : Int) (r4_4 : Int) (w3 : World) => let w5 : World := w3.alloc (Obj.cells #[(Value.slice none 0 0), (Value.slice none 0 0), (Value.slice none 0 0), (Value.int .i64 (0 : Int)), (Value.int .i64 (0 : Int))] 28)
  stN w5 (Addr.mk w3.heap.size 0 none) [(Value.slice r4_0.p r4_0.l r4_0.c), (Value.slice r4_1.p r4_1.l r4_1.c), (Value.slice r4_2.p r4_2.l r4_2.c), (Value.int .i64 r4_3), (Value.int .i64 r4_4)] fun (w6 : World) => ∃ x7 : Sl, w6.cell? (Addr.mk w3.heap.size 0 none) = some (Value.slice x7.p x7.l x7.c) ∧ ∃ x8 : Sl, w6.cell? (Addr.mk w3.heap.size 1 none) = some (Value.slice x8.p x8.l x8.c) ∧ ∃ x9 : Sl, w6.cell? (Addr.mk w3.heap.size 2 none) = some (Value.slice x9.p x9.l x9.c) ∧ ∃ x10 : Int, w6.cell? (Addr.mk w3.heap.size 3 none) = some (Value.int .i64 x10) ∧ ∃ x11 : Int, w6.cell? (Addr.mk w3.heap.size 4 none) = some (Value.int .i64 x11) ∧ Rf_Prefixes_sh x7 x8 x9 x10 x11 (fun (r13 : Int) (w12 : World) => ∃ x14 : Sl, w12.cell? (Addr.mk w3.heap.size 0 none) = some (Value.slice x14.p x14.l x14.c) ∧ ∃ x15 : Sl, w12.cell? (Addr.mk w3.heap.size 1 none) = some (Value.slice x15.p x15.l x15.c) ∧ ∃ x16 : Sl, w12.cell? (Addr.mk w3.heap.size 2 none) = some (Value.slice x16.p x16.l x16.c) ∧ ∃ x17 : Int, w12.cell? (Addr.mk w3.heap.size 3 none) = some (Value.int .i64 x17) ∧ ∃ x18 : Int, w12.cell? (Addr.mk w3.heap.size 4 none) = some (Value.int .i64 x18) ∧ Cb_Solve_sh x14 x15 x16 x17 x18 r13 (fun (r20_0 : Sl) (r20_1 : Int) (r20_2 : Int) (r20_3 : Sl) (r21 : Int) (w19 : World) => let w22 : World := w19.alloc (Obj.cells #[(Value.slice none 0 0), (Value.int .i64 (0 : Int)), (Value.int .i64 (0 : Int)), (Value.slice none 0 0)] 33)
  stN w22 (Addr.mk w19.heap.size 0 none) [(Value.slice r20_0.p r20_0.l r20_0.c), (Value.int .i64 r20_1), (Value.int .i64 r20_2), (Value.slice r20_3.p r20_3.l r20_3.c)] fun (w23 : World) => cnd (r21 != (0 : Int))
    (K false w23)
    (∃ x24 : Sl, w23.cell? (Addr.mk w19.heap.size 0 none) = some (Value.slice x24.p x24.l x24.c) ∧ ∃ x25 : Sl, w23.cell? (Addr.mk w3.heap.size 0 none) = some (Value.slice x25.p x25.l x25.c) ∧ cnd ((x24.l : Int) != (x25.l : Int))
    (K false w23)
    (∃ x26 : Sl, w23.cell? (Addr.mk w3.heap.size 1 none) = some (Value.slice x26.p x26.l x26.c) ∧ cnd ((x26.l : Int) == (0 : Int))
    (K r2 w23)
    (inR .i64 which_1 ∧ ∃ x27 : Sl, w23.cell? (Addr.mk w3.heap.size 1 none) = some (Value.slice x27.p x27.l x27.c) ∧ (x27.l : Int) ≠ 0 ∧ Lw_CombineLosers_l0 r2 (Addr.mk w3.heap.size 0 none) r13 (Addr.mk w19.heap.size 0 none) (Int.tmod which_1 (x27.l : Int)) (0 : Int) K w23)))) w12) w6) w1) w
structure Lw_CombineLosers_sh (l_0 : Sl) (which_1 : Int) (K : Bool → World → Prop) (w : World) : Prop where
  out : Lw_CombineLosers_sd l_0 which_1 K w
def Lw_CombineLosers_P0 (Kv : VW) (ρ : Rho) (vs : List Value) (w : World) : Prop :=
  match ρ, vs with
  | _, [.bool up_5, .pointer (some p_6), .int .i64 work_7, .pointer (some a_8), .int .i64 k_10, .int .i64 i_11] => Lw_CombineLosers_l0 up_5 p_6 work_7 a_8 k_10 i_11 (fun (r0 : Bool) (w' : World) => Kv (Value.bool r0) w') w
  | _, _ => False
def Lw_CombineLosers_P1 (Kv : VW) (ρ : Rho) (vs : List Value) (w : World) : Prop :=
  match ρ, vs with
  | _, [.bool up_5, .pointer (some a_8), .int .i64 k_10, .pointer (some b_13), .int .i64 i_15] => Lw_CombineLosers_l1 up_5 a_8 k_10 b_13 i_15 (fun (r0 : Bool) (w' : World) => Kv (Value.bool r0) w') w
  | _, _ => False
def Lw_CombineLosers_P2 (Kv : VW) (ρ : Rho) (vs : List Value) (w : World) : Prop :=
  match ρ, vs with
  | N1 :: _, [.bool up_5, .pointer (some a_8), .int .i64 k_10, .pointer (some b_13), .int .i64 i_15, .int .i64 n_16] => Lw_CombineLosers_k2 up_5 a_8 k_10 b_13 i_15 n_16 (fun (up_5' : Bool) (a_8' : Addr) (k_10' : Int) (b_13' : Addr) (i_15' : Int) (w' : World) => N1 [(Value.bool up_5'), (Value.pointer (some a_8')), (Value.int .i64 k_10'), (Value.pointer (some b_13')), (Value.int .i64 i_15')] w') (fun (r0 : Bool) (w' : World) => Kv (Value.bool r0) w') w
  | _, _ => False
noncomputable def Lw_CombineLosers_S : Pw.Spec := fun vs w Kv =>
  match vs with
  | [.slice l_0p l_0l l_0c, .int .u8 which_1] => Lw_CombineLosers_sh ⟨l_0p, l_0l, l_0c⟩ which_1 (fun (r0 : Bool) (w' : World) => Kv (Value.bool r0) w') w
  | _ => False
noncomputable def Lw_CombineLosers_E : Pw.Env := [(7, Lw_sanity_S), (8, Rf_Made_S), (9, Rf_Prefixes_S), (10, Cb_Solve_S)]
noncomputable def Lw_CombineLosers_C : Code := (Try.f4.body).getD .skip
noncomputable def Lw_CombineLosers_A (Kv : VW) : Pw.A :=
  (A.seq (A.reg (RA.run RA.done))
   (A.seq (A.reg (RA.run (RA.run RA.done)))
   (A.seq (A.reg (RA.run (RA.run (RA.run (RA.run RA.done)))))
   (A.seq (A.reg (RA.run (RA.run (RA.run RA.done))))
   (A.seq (A.reg (RA.run (RA.run (RA.run (RA.run (RA.run (RA.run (RA.run (RA.run (RA.run RA.done))))))))))
   (A.seq (A.seq (A.reg (RA.run (RA.run (RA.run (RA.spl 30 (RA.skp (RA.skp (RA.skp (RA.skp (RA.skp (RA.skp (RA.skp (RA.run RA.done)))))))) (RA.run (RA.run (RA.run (RA.run (RA.run (RA.run (RA.run (RA.run RA.done)))))))))))))
   (A.cond (A.seq (A.reg (RA.run RA.done))
   A.leaf)
   A.leaf))
   (A.seq (A.seq (A.reg (RA.run (RA.run (RA.run (RA.run RA.done)))))
   (A.cond (A.seq (A.reg (RA.run (RA.run RA.done)))
   A.leaf)
   A.leaf))
   (A.seq (A.reg (RA.run (RA.run (RA.run (RA.run (RA.run (RA.run (RA.run RA.done))))))))
   (A.seq (A.seq (A.reg (RA.run RA.done))
   (A.blk (A.loop [5, 6, 7, 8, 10, 11] (Lw_CombineLosers_P0 Kv) (A.seq (A.seq (A.reg (RA.run (RA.run (RA.run (RA.run (RA.run RA.done))))))
   (A.cond A.leaf
   A.leaf))
   (A.seq (A.blk (A.seq (A.reg (RA.run (RA.run (RA.run (RA.run (RA.run (RA.run (RA.run RA.done))))))))
   (A.cond (A.seq (A.reg (RA.run (RA.run RA.done)))
   A.leaf)
   A.leaf)))
   (A.reg (RA.run (RA.run (RA.run RA.done)))))))))
   (A.seq (A.reg (RA.run (RA.run (RA.run RA.done))))
   (A.seq (A.drw (DA.pur 1 (DA.pur 2 (DA.pur 3 (DA.pur 4 (DA.pur 6 (DA.pur 7 (DA.pur 8 (DA.pur 9 (DA.pur 10 (DA.eff 0 (DA.eff 5 (DA.eff 11 (DA.pur 12 (DA.eff 13 DA.done)))))))))))))))
   (A.seq (A.reg (RA.run (RA.run (RA.run (RA.run (RA.run (RA.run (RA.run (RA.run (RA.run RA.done))))))))))
   (A.seq (A.seq (A.reg (RA.run (RA.run (RA.run (RA.spl 87 (RA.skp (RA.skp (RA.skp (RA.skp (RA.skp (RA.skp (RA.skp (RA.run (RA.run (RA.skp (RA.skp (RA.skp (RA.skp (RA.skp (RA.run RA.done))))))))))))))) (RA.run (RA.run (RA.run (RA.run (RA.run (RA.run (RA.run (RA.run (RA.run (RA.spl 96 (RA.skp (RA.skp (RA.skp (RA.skp (RA.skp (RA.run RA.done)))))) (RA.run (RA.run (RA.run (RA.run (RA.run (RA.run RA.done)))))))))))))))))))))
   (A.cond (A.seq (A.reg (RA.run RA.done))
   A.leaf)
   A.leaf))
   (A.seq (A.seq (A.reg (RA.run RA.done))
   (A.blk (A.loop [5, 8, 10, 13, 15] (Lw_CombineLosers_P1 Kv) (A.seq (A.seq (A.reg (RA.run (RA.run (RA.run (RA.run (RA.run RA.done))))))
   (A.cond A.leaf
   A.leaf))
   (A.seq (A.blk (A.seq (A.reg (RA.run (RA.run (RA.run (RA.run (RA.run (RA.run RA.done)))))))
   (A.seq (A.seq (A.reg (RA.run (RA.run (RA.run RA.done))))
   (A.cond (A.reg (RA.run (RA.run (RA.run RA.done))))
   A.leaf))
   (A.cut [5, 8, 10, 13, 15, 16] (Lw_CombineLosers_P2 Kv) (A.seq (A.reg (RA.run (RA.run (RA.run (RA.run (RA.run (RA.run (RA.run RA.done))))))))
   (A.cond (A.seq (A.reg (RA.run RA.done))
   A.leaf)
   A.leaf))))))
   (A.reg (RA.run (RA.run (RA.run RA.done)))))))))
   (A.seq (A.reg (RA.run (RA.run RA.done)))
   A.leaf)))))))))))))))
noncomputable def Lw_CombineLosers_O (Kv : VW) : List Ob := (obs Try.prog Lw_CombineLosers_E 128 (Lw_CombineLosers_A Kv) Lw_CombineLosers_C (fun _ => retQ Try.prog Try.f4.results Kv))
theorem Lw_CombineLosers_e (Kv : VW) (l_0p : Option Addr) (l_0l l_0c : Nat) (which_1 : Int) (w : World) : Lw_CombineLosers_sd ⟨l_0p, l_0l, l_0c⟩ which_1 (fun (r0 : Bool) (w' : World) => Kv (Value.bool r0) w') w = W Try.prog Lw_CombineLosers_E 128 (Lw_CombineLosers_A Kv) Lw_CombineLosers_C [] (retQ Try.prog Try.f4.results Kv) [] (startS [(Value.slice l_0p l_0l l_0c), (Value.int .u8 which_1)]) w := by kernel_rfl
theorem Lw_CombineLosers_e0 (Kv : VW) (N0 : List Value → World → Prop) (ρ : Rho) (up_5 : Bool) (p_6 : Addr) (work_7 : Int) (a_8 : Addr) (k_10 : Int) (i_11 : Int) (w : World) : Lw_CombineLosers_b0 up_5 p_6 work_7 a_8 k_10 i_11 (fun (up_5' : Bool) (p_6' : Addr) (work_7' : Int) (a_8' : Addr) (k_10' : Int) (i_11' : Int) (w' : World) => N0 [(Value.bool up_5'), (Value.pointer (some p_6')), (Value.int .i64 work_7'), (Value.pointer (some a_8')), (Value.int .i64 k_10'), (Value.int .i64 i_11')] w') (fun (r0 : Bool) (w' : World) => Kv (Value.bool r0) w') w = goalAt Try.prog Lw_CombineLosers_E 128 (Lw_CombineLosers_O Kv) 0 (N0 :: ρ) [(Value.bool up_5), (Value.pointer (some p_6)), (Value.int .i64 work_7), (Value.pointer (some a_8)), (Value.int .i64 k_10), (Value.int .i64 i_11)] w := by kernel_rfl
theorem Lw_CombineLosers_q0 (Kv : VW) (ρ : Rho) (vs : List Value) (w : World) : labAt (Lw_CombineLosers_O Kv) 0 ρ vs w = Lw_CombineLosers_P0 Kv ρ vs w := by kernel_rfl
def Lw_CombineLosers_I0 (up_50 : Bool) (p_60 : Addr) (work_70 : Int) (a_80 : Addr) (k_100 : Int) (I : Int → World → Prop) (vs : List Value) (w : World) : Prop :=
  match vs with
  | [.bool up_5, .pointer (some p_6), .int .i64 work_7, .pointer (some a_8), .int .i64 k_10, .int .i64 i_11] => (up_5 = up_50 ∧ p_6 = p_60 ∧ work_7 = work_70 ∧ a_8 = a_80 ∧ k_10 = k_100 ∧ True) ∧ I i_11 w
  | _ => False
def Lw_CombineLosers_M0 (μ : Int → World → Nat) (vs : List Value) (w : World) : Nat :=
  match vs with
  | [.bool _up_5, .pointer (some _p_6), .int .i64 _work_7, .pointer (some _a_8), .int .i64 _k_10, .int .i64 i_11] => μ i_11 w
  | _ => 0
theorem Lw_CombineLosers_h0 (Kv : VW) : holdsAt Try.prog Lw_CombineLosers_E 128 (Lw_CombineLosers_O Kv) 0 := holdsAt_loop (by kernel_rfl) (fun ρ vs w h => by
  rw [Lw_CombineLosers_q0] at h
  unfold Lw_CombineLosers_P0 at h
  split at h
  · rename_i ρt up_5 p_6 work_7 a_8 k_10 i_11
    obtain ⟨I, μ, h0, hr⟩ := h.out
    refine ⟨Lw_CombineLosers_I0 up_5 p_6 work_7 a_8 k_10 I, Lw_CombineLosers_M0 μ, ⟨⟨rfl, rfl, rfl, rfl, rfl, trivial⟩, h0⟩, fun vs w hI => ?_⟩
    unfold Lw_CombineLosers_I0 at hI
    split at hI
    · obtain ⟨⟨h0, h1, h2, h3, h4, _⟩, hI⟩ := hI
      cases h0; cases h1; cases h2; cases h3; cases h4
      rw [← Lw_CombineLosers_e0]
      exact hr _ _ hI
    · exact hI.elim
  · exact h.elim)
theorem Lw_CombineLosers_e1 (Kv : VW) (N1 : List Value → World → Prop) (ρ : Rho) (up_5 : Bool) (a_8 : Addr) (k_10 : Int) (b_13 : Addr) (i_15 : Int) (w : World) : Lw_CombineLosers_b1 up_5 a_8 k_10 b_13 i_15 (fun (up_5' : Bool) (a_8' : Addr) (k_10' : Int) (b_13' : Addr) (i_15' : Int) (w' : World) => N1 [(Value.bool up_5'), (Value.pointer (some a_8')), (Value.int .i64 k_10'), (Value.pointer (some b_13')), (Value.int .i64 i_15')] w') (fun (r0 : Bool) (w' : World) => Kv (Value.bool r0) w') w = goalAt Try.prog Lw_CombineLosers_E 128 (Lw_CombineLosers_O Kv) 1 (N1 :: ρ) [(Value.bool up_5), (Value.pointer (some a_8)), (Value.int .i64 k_10), (Value.pointer (some b_13)), (Value.int .i64 i_15)] w := by kernel_rfl
theorem Lw_CombineLosers_q1 (Kv : VW) (ρ : Rho) (vs : List Value) (w : World) : labAt (Lw_CombineLosers_O Kv) 1 ρ vs w = Lw_CombineLosers_P1 Kv ρ vs w := by kernel_rfl
def Lw_CombineLosers_I1 (up_50 : Bool) (a_80 : Addr) (k_100 : Int) (b_130 : Addr) (I : Int → World → Prop) (vs : List Value) (w : World) : Prop :=
  match vs with
  | [.bool up_5, .pointer (some a_8), .int .i64 k_10, .pointer (some b_13), .int .i64 i_15] => (up_5 = up_50 ∧ a_8 = a_80 ∧ k_10 = k_100 ∧ b_13 = b_130 ∧ True) ∧ I i_15 w
  | _ => False
def Lw_CombineLosers_M1 (μ : Int → World → Nat) (vs : List Value) (w : World) : Nat :=
  match vs with
  | [.bool _up_5, .pointer (some _a_8), .int .i64 _k_10, .pointer (some _b_13), .int .i64 i_15] => μ i_15 w
  | _ => 0
theorem Lw_CombineLosers_h1 (Kv : VW) : holdsAt Try.prog Lw_CombineLosers_E 128 (Lw_CombineLosers_O Kv) 1 := holdsAt_loop (by kernel_rfl) (fun ρ vs w h => by
  rw [Lw_CombineLosers_q1] at h
  unfold Lw_CombineLosers_P1 at h
  split at h
  · rename_i ρt up_5 a_8 k_10 b_13 i_15
    obtain ⟨I, μ, h0, hr⟩ := h.out
    refine ⟨Lw_CombineLosers_I1 up_5 a_8 k_10 b_13 I, Lw_CombineLosers_M1 μ, ⟨⟨rfl, rfl, rfl, rfl, trivial⟩, h0⟩, fun vs w hI => ?_⟩
    unfold Lw_CombineLosers_I1 at hI
    split at hI
    · obtain ⟨⟨h0, h1, h2, h3, _⟩, hI⟩ := hI
      cases h0; cases h1; cases h2; cases h3
      rw [← Lw_CombineLosers_e1]
      exact hr _ _ hI
    · exact hI.elim
  · exact h.elim)
theorem Lw_CombineLosers_e2 (Kv : VW) (N1 : List Value → World → Prop) (ρ : Rho) (up_5 : Bool) (a_8 : Addr) (k_10 : Int) (b_13 : Addr) (i_15 : Int) (n_16 : Int) (w : World) : Lw_CombineLosers_k2d up_5 a_8 k_10 b_13 i_15 n_16 (fun (up_5' : Bool) (a_8' : Addr) (k_10' : Int) (b_13' : Addr) (i_15' : Int) (w' : World) => N1 [(Value.bool up_5'), (Value.pointer (some a_8')), (Value.int .i64 k_10'), (Value.pointer (some b_13')), (Value.int .i64 i_15')] w') (fun (r0 : Bool) (w' : World) => Kv (Value.bool r0) w') w = goalAt Try.prog Lw_CombineLosers_E 128 (Lw_CombineLosers_O Kv) 2 (N1 :: ρ) [(Value.bool up_5), (Value.pointer (some a_8)), (Value.int .i64 k_10), (Value.pointer (some b_13)), (Value.int .i64 i_15), (Value.int .i64 n_16)] w := by kernel_rfl
theorem Lw_CombineLosers_q2 (Kv : VW) (ρ : Rho) (vs : List Value) (w : World) : labAt (Lw_CombineLosers_O Kv) 2 ρ vs w = Lw_CombineLosers_P2 Kv ρ vs w := by kernel_rfl
theorem Lw_CombineLosers_h2 (Kv : VW) : holdsAt Try.prog Lw_CombineLosers_E 128 (Lw_CombineLosers_O Kv) 2 := holdsAt_cut (.inl (by kernel_rfl)) (fun ρ vs w h => by
  rw [Lw_CombineLosers_q2] at h
  unfold Lw_CombineLosers_P2 at h
  split at h
  · rw [← Lw_CombineLosers_e2]; exact h.out
  · exact h.elim)
theorem Lw_CombineLosers_n (Kv : VW) : obAt (Lw_CombineLosers_O Kv) 3 = none := by kernel_rfl
theorem Lw_CombineLosers_h (Kv : VW) : ∀ k, holdsAt Try.prog Lw_CombineLosers_E 128 (Lw_CombineLosers_O Kv) k := fun k => match k with
  | 0 => Lw_CombineLosers_h0 Kv
  | 1 => Lw_CombineLosers_h1 Kv
  | 2 => Lw_CombineLosers_h2 Kv
  | _k + 3 => holdsAt_ge (Lw_CombineLosers_n Kv) (Nat.le_add_left _ _)
theorem Lw_CombineLosers_ok : Sound Try.prog 4 Lw_CombineLosers_S := ⟨Try.call4, fun vs w Kv h => by
  unfold Lw_CombineLosers_S at h
  split at h
  · have h := h.out
    rw [Lw_CombineLosers_e] at h
    exact calls_sound (Γ := Lw_CombineLosers_E) progMixed ⟨.inl Lw_sanity_ok, .inl Rf_Made_ok, .inl Rf_Prefixes_ok, .inl Cb_Solve_ok, trivial⟩ Try.func4 (code := Lw_CombineLosers_C) (by kernel_rfl) (Lw_CombineLosers_A Kv) Kv (holds_all (Lw_CombineLosers_h Kv)) (Nat.le_of_ble_eq_true (by kernel_rfl)) h
  · exact h.elim⟩
end Go.Proofs.Ytmkjcheafdionaa
