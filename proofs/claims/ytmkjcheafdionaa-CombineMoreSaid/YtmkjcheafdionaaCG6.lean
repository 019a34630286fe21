/- The bodies' formulas, by program. -/
import Derived.Test.YtmkjcheafdionaaProg
import Derived.KernelRfl
import Derived.Test.YtmkjcheafdionaaPwX
import Derived.Test.YtmkjcheafdionaaCG0
import Derived.Test.YtmkjcheafdionaaCG1
import Derived.Test.YtmkjcheafdionaaCG2
import Derived.Test.YtmkjcheafdionaaCG3
import Derived.Test.YtmkjcheafdionaaCG4
import Derived.Test.YtmkjcheafdionaaCG5
set_option maxRecDepth 20000
namespace Go.Proofs.Ytmkjcheafdionaa
open Go Pw
/-! Lw_example -/
def Lw_example_k0d (t_6 : Addr) (p_7 : Addr) (K : Sl → Sl → Sl → Int → Int → World → Prop) (w : World) : Prop :=
  ∃ x10 : Sl, w.cell? p_7 = some (Value.slice x10.p x10.l x10.c) ∧ ∃ x11 : Sl, w.cell? (p_7.add 1) = some (Value.slice x11.p x11.l x11.c) ∧ ∃ x12 : Sl, w.cell? (p_7.add 2) = some (Value.slice x12.p x12.l x12.c) ∧ ∃ x13 : Int, w.cell? (p_7.add 3) = some (Value.int .i64 x13) ∧ ∃ x14 : Int, w.cell? (p_7.add 4) = some (Value.int .i64 x14) ∧ stN w t_6 [(Value.slice x10.p x10.l x10.c), (Value.slice x11.p x11.l x11.c), (Value.slice x12.p x12.l x12.c), (Value.int .i64 x13), (Value.int .i64 x14)] fun (w15 : World) => ∃ x16 : Sl, w15.cell? t_6 = some (Value.slice x16.p x16.l x16.c) ∧ ∃ x17 : Sl, w15.cell? (t_6.add 1) = some (Value.slice x17.p x17.l x17.c) ∧ ∃ x18 : Sl, w15.cell? (t_6.add 2) = some (Value.slice x18.p x18.l x18.c) ∧ ∃ x19 : Int, w15.cell? (t_6.add 3) = some (Value.int .i64 x19) ∧ ∃ x20 : Int, w15.cell? (t_6.add 4) = some (Value.int .i64 x20) ∧ K x16 x17 x18 x19 x20 w15
structure Lw_example_k0 (t_6 : Addr) (p_7 : Addr) (K : Sl → Sl → Sl → Int → Int → World → Prop) (w : World) : Prop where
  out : Lw_example_k0d t_6 p_7 K w
def Lw_example_sd (budget_0 : Int) (most_1 : Int) (off_2 : Int) (K : Sl → Sl → Sl → Int → Int → World → Prop) (w : World) : Prop :=
  let w1 : World := w.alloc (Obj.cells #[(Value.slice none 0 0), (Value.slice none 0 0), (Value.slice none 0 0), (Value.int .i64 (0 : Int)), (Value.int .i64 (0 : Int))] 28)
  let w2 : World := w1.alloc (Obj.cells #[(Value.int .i64 (1 : Int)), (Value.int .i64 (2 : Int))] 3)
  let w3 : World := w2.alloc (Obj.cells #[(Value.slice none 0 0), (Value.slice none 0 0), (Value.slice none 0 0), (Value.int .i64 (0 : Int)), (Value.int .i64 (0 : Int))] 28)
  stN w3 (Addr.mk w2.heap.size 0 none) [(Value.slice (some (Addr.mk w1.heap.size 0 none)) 2 2), (Value.slice none 0 0), (Value.slice none 0 0), (Value.int .i64 most_1), (Value.int .i64 budget_0)] fun (w4 : World) => let w5 : World := w4.alloc (Obj.cells #[(Value.int .i64 (1 : Int)), (Value.int .i64 (5 : Int)), (Value.int .i64 (10 : Int)), (Value.int .i64 (8 : Int)), (Value.int .i64 (1 : Int)), (Value.int .i64 (6 : Int)), (Value.int .i64 (7 : Int)), (Value.int .i64 (6 : Int)), (Value.int .i64 (2 : Int)), (Value.int .i64 (5 : Int)), (Value.int .i64 (9 : Int)), (Value.int .i64 (7 : Int))] 56)
  wrOk w5 (Addr.mk w2.heap.size 1 none) ∧ 
  (let w6 : World := w5.setCell (Addr.mk w2.heap.size 1 none) (Value.slice (some (Addr.mk w4.heap.size 0 none)) 3 3)
  cnd (decide (off_2 > (0 : Int)))
    (let w7 : World := w6.alloc (Obj.cells #[(Value.int .i64 (1 : Int)), (Value.int .i64 (2 : Int))] 3)
  let w8 : World := w7.alloc (Obj.cells #[(Value.int .i64 (5 : Int)), (Value.slice (some (Addr.mk w6.heap.size 0 none)) 2 2), (Value.int .i64 off_2)] 58)
  wrOk w8 (Addr.mk w2.heap.size 2 none) ∧ 
  (let w9 : World := w8.setCell (Addr.mk w2.heap.size 2 none) (Value.slice (some (Addr.mk w7.heap.size 0 none)) 1 1)
  Lw_example_k0 (Addr.mk w.heap.size 0 none) (Addr.mk w2.heap.size 0 none) K w9))
    (Lw_example_k0 (Addr.mk w.heap.size 0 none) (Addr.mk w2.heap.size 0 none) K w6))
structure Lw_example_sh (budget_0 : Int) (most_1 : Int) (off_2 : Int) (K : Sl → Sl → Sl → Int → Int → World → Prop) (w : World) : Prop where
  out : Lw_example_sd budget_0 most_1 off_2 K w
def Lw_example_P0 (Kv : VW) (ρ : Rho) (vs : List Value) (w : World) : Prop :=
  match ρ, vs with
  | _, [.pointer (some t_6), .pointer (some p_7)] => Lw_example_k0 t_6 p_7 (fun (r0_0 : Sl) (r0_1 : Sl) (r0_2 : Sl) (r0_3 : Int) (r0_4 : Int) (w' : World) => Kv (Value.agg #[(Value.slice r0_0.p r0_0.l r0_0.c), (Value.slice r0_1.p r0_1.l r0_1.c), (Value.slice r0_2.p r0_2.l r0_2.c), (Value.int .i64 r0_3), (Value.int .i64 r0_4)]) w') w
  | _, _ => False
noncomputable def Lw_example_S : Pw.Spec := fun vs w Kv =>
  match vs with
  | [.int .i64 budget_0, .int .i64 most_1, .int .i64 off_2] => Lw_example_sh budget_0 most_1 off_2 (fun (r0_0 : Sl) (r0_1 : Sl) (r0_2 : Sl) (r0_3 : Int) (r0_4 : Int) (w' : World) => Kv (Value.agg #[(Value.slice r0_0.p r0_0.l r0_0.c), (Value.slice r0_1.p r0_1.l r0_1.c), (Value.slice r0_2.p r0_2.l r0_2.c), (Value.int .i64 r0_3), (Value.int .i64 r0_4)]) w') w
  | _ => False
noncomputable def Lw_example_E : Pw.Env := []
noncomputable def Lw_example_C : Code := (Try.f18.body).getD .skip
noncomputable def Lw_example_A (Kv : VW) : Pw.A :=
  (A.seq (A.reg (RA.run RA.done))
   (A.seq (A.reg (RA.run (RA.run (RA.run (RA.run (RA.run (RA.run RA.done)))))))
   (A.seq (A.reg (RA.run (RA.run (RA.run (RA.run (RA.run (RA.run RA.done)))))))
   (A.seq (A.seq (A.reg (RA.run (RA.run RA.done)))
   (A.cond (A.reg (RA.run (RA.run (RA.run (RA.run (RA.run (RA.run RA.done)))))))
   A.leaf))
   (A.cut [6, 7] (Lw_example_P0 Kv) (A.seq (A.reg (RA.run (RA.run RA.done)))
   A.leaf))))))
noncomputable def Lw_example_O (Kv : VW) : List Ob := (obs Try.prog Lw_example_E 25 (Lw_example_A Kv) Lw_example_C (fun _ => retQ Try.prog Try.f18.results Kv))
theorem Lw_example_e (Kv : VW) (budget_0 : Int) (most_1 : Int) (off_2 : Int) (w : World) : Lw_example_sd budget_0 most_1 off_2 (fun (r0_0 : Sl) (r0_1 : Sl) (r0_2 : Sl) (r0_3 : Int) (r0_4 : Int) (w' : World) => Kv (Value.agg #[(Value.slice r0_0.p r0_0.l r0_0.c), (Value.slice r0_1.p r0_1.l r0_1.c), (Value.slice r0_2.p r0_2.l r0_2.c), (Value.int .i64 r0_3), (Value.int .i64 r0_4)]) w') w = W Try.prog Lw_example_E 25 (Lw_example_A Kv) Lw_example_C [] (retQ Try.prog Try.f18.results Kv) [] (startS [(Value.int .i64 budget_0), (Value.int .i64 most_1), (Value.int .i64 off_2)]) w := by kernel_rfl
theorem Lw_example_e0 (Kv : VW) (ρ : Rho) (t_6 : Addr) (p_7 : Addr) (w : World) : Lw_example_k0d t_6 p_7 (fun (r0_0 : Sl) (r0_1 : Sl) (r0_2 : Sl) (r0_3 : Int) (r0_4 : Int) (w' : World) => Kv (Value.agg #[(Value.slice r0_0.p r0_0.l r0_0.c), (Value.slice r0_1.p r0_1.l r0_1.c), (Value.slice r0_2.p r0_2.l r0_2.c), (Value.int .i64 r0_3), (Value.int .i64 r0_4)]) w') w = goalAt Try.prog Lw_example_E 25 (Lw_example_O Kv) 0 (ρ) [(Value.pointer (some t_6)), (Value.pointer (some p_7))] w := by kernel_rfl
theorem Lw_example_q0 (Kv : VW) (ρ : Rho) (vs : List Value) (w : World) : labAt (Lw_example_O Kv) 0 ρ vs w = Lw_example_P0 Kv ρ vs w := by kernel_rfl
theorem Lw_example_h0 (Kv : VW) : holdsAt Try.prog Lw_example_E 25 (Lw_example_O Kv) 0 := holdsAt_cut (.inl (by kernel_rfl)) (fun ρ vs w h => by
  rw [Lw_example_q0] at h
  unfold Lw_example_P0 at h
  split at h
  · rw [← Lw_example_e0]; exact h.out
  · exact h.elim)
theorem Lw_example_n (Kv : VW) : obAt (Lw_example_O Kv) 1 = none := by kernel_rfl
theorem Lw_example_h (Kv : VW) : ∀ k, holdsAt Try.prog Lw_example_E 25 (Lw_example_O Kv) k := fun k => match k with
  | 0 => Lw_example_h0 Kv
  | _k + 1 => holdsAt_ge (Lw_example_n Kv) (Nat.le_add_left _ _)
theorem Lw_example_ok : Sound Try.prog 18 Lw_example_S := ⟨Try.call18, fun vs w Kv h => by
  unfold Lw_example_S at h
  split at h
  · have h := h.out
    rw [Lw_example_e] at h
    exact calls_sound (Γ := Lw_example_E) progMixed trivial Try.func18 (code := Lw_example_C) (by kernel_rfl) (Lw_example_A Kv) Kv (holds_all (Lw_example_h Kv)) (Nat.le_of_ble_eq_true (by kernel_rfl)) h
  · exact h.elim⟩
/-! Lw_takes -/
def Lw_takes_sd (p_0_0 : Sl) (p_0_1 : Sl) (p_0_2 : Sl) (p_0_3 : Int) (p_0_4 : Int) (want_1 : Sl) (points_2 : Int) (K : Bool → World → Prop) (w : World) : Prop :=
  let w1 : World := w.alloc (Obj.cells #[(Value.slice p_0_0.p p_0_0.l p_0_0.c), (Value.slice p_0_1.p p_0_1.l p_0_1.c), (Value.slice p_0_2.p p_0_2.l p_0_2.c), (Value.int .i64 p_0_3), (Value.int .i64 p_0_4)] 28)
  ∃ x2 : Sl, w1.cell? (Addr.mk w.heap.size 0 none) = some (Value.slice x2.p x2.l x2.c) ∧ ∃ x3 : Sl, w1.cell? (Addr.mk w.heap.size 1 none) = some (Value.slice x3.p x3.l x3.c) ∧ ∃ x4 : Sl, w1.cell? (Addr.mk w.heap.size 2 none) = some (Value.slice x4.p x4.l x4.c) ∧ ∃ x5 : Int, w1.cell? (Addr.mk w.heap.size 3 none) = some (Value.int .i64 x5) ∧ ∃ x6 : Int, w1.cell? (Addr.mk w.heap.size 4 none) = some (Value.int .i64 x6) ∧ Cb_Solve_sh x2 x3 x4 x5 x6 (1000 : Int) (fun (r8_0 : Sl) (r8_1 : Int) (r8_2 : Int) (r8_3 : Sl) (r9 : Int) (w7 : World) => let w10 : World := w7.alloc (Obj.cells #[(Value.slice none 0 0), (Value.int .i64 (0 : Int)), (Value.int .i64 (0 : Int)), (Value.slice none 0 0)] 33)
  stN w10 (Addr.mk w7.heap.size 0 none) [(Value.slice r8_0.p r8_0.l r8_0.c), (Value.int .i64 r8_1), (Value.int .i64 r8_2), (Value.slice r8_3.p r8_3.l r8_3.c)] fun (w11 : World) => cnd (r9 == (0 : Int))
    (∃ x12 : Sl, w11.cell? (Addr.mk w7.heap.size 0 none) = some (Value.slice x12.p x12.l x12.c) ∧ Rf_Ints_sh x12 want_1 (fun (r14 : Bool) (w13 : World) => cnd r14
    (∃ x15 : Int, w13.cell? (Addr.mk w7.heap.size 1 none) = some (Value.int .i64 x15) ∧ cnd (x15 == points_2)
    (∃ x16 : Int, w13.cell? (Addr.mk w7.heap.size 2 none) = some (Value.int .i64 x16) ∧ K (x16 == points_2) w13)
    (K false w13))
    (K false w13)) w11)
    (K false w11)) w1
structure Lw_takes_sh (p_0_0 : Sl) (p_0_1 : Sl) (p_0_2 : Sl) (p_0_3 : Int) (p_0_4 : Int) (want_1 : Sl) (points_2 : Int) (K : Bool → World → Prop) (w : World) : Prop where
  out : Lw_takes_sd p_0_0 p_0_1 p_0_2 p_0_3 p_0_4 want_1 points_2 K w
noncomputable def Lw_takes_S : Pw.Spec := fun vs w Kv =>
  match vs with
  | [.agg ⟨[.slice p_0_0p p_0_0l p_0_0c, .slice p_0_1p p_0_1l p_0_1c, .slice p_0_2p p_0_2l p_0_2c, .int .i64 p_0_3, .int .i64 p_0_4]⟩, .slice want_1p want_1l want_1c, .int .i64 points_2] => Lw_takes_sh ⟨p_0_0p, p_0_0l, p_0_0c⟩ ⟨p_0_1p, p_0_1l, p_0_1c⟩ ⟨p_0_2p, p_0_2l, p_0_2c⟩ p_0_3 p_0_4 ⟨want_1p, want_1l, want_1c⟩ points_2 (fun (r0 : Bool) (w' : World) => Kv (Value.bool r0) w') w
  | _ => False
noncomputable def Lw_takes_E : Pw.Env := [(10, Cb_Solve_S), (33, Rf_Ints_S)]
noncomputable def Lw_takes_C : Code := (Try.f17.body).getD .skip
noncomputable def Lw_takes_A (_Kv : VW) : Pw.A :=
  (A.seq (A.reg (RA.run (RA.run RA.done)))
   (A.seq (A.reg (RA.run (RA.run (RA.run (RA.run (RA.run (RA.run (RA.run (RA.run RA.done)))))))))
   (A.seq (A.reg (RA.run (RA.run (RA.run (RA.spl 16 (RA.run (RA.run (RA.run (RA.run (RA.run (RA.run (RA.spl 22 (RA.run (RA.run (RA.run (RA.run (RA.run (RA.run (RA.spl 28 (RA.run (RA.run (RA.run (RA.run (RA.run (RA.run RA.done)))))) (RA.skp (RA.skp (RA.skp (RA.skp (RA.run (RA.run RA.done))))))))))))) (RA.skp (RA.skp (RA.skp (RA.skp (RA.run (RA.run (RA.skp (RA.skp (RA.skp (RA.skp (RA.run (RA.run RA.done))))))))))))))))))) (RA.skp (RA.skp (RA.skp (RA.skp (RA.run (RA.run (RA.skp (RA.skp (RA.skp (RA.skp (RA.run (RA.run (RA.skp (RA.skp (RA.skp (RA.skp (RA.run (RA.run RA.done)))))))))))))))))))))))
   A.leaf)))
noncomputable def Lw_takes_O (Kv : VW) : List Ob := (obs Try.prog Lw_takes_E 34 (Lw_takes_A Kv) Lw_takes_C (fun _ => retQ Try.prog Try.f17.results Kv))
theorem Lw_takes_e (Kv : VW) (p_0_0p : Option Addr) (p_0_0l p_0_0c : Nat) (p_0_1p : Option Addr) (p_0_1l p_0_1c : Nat) (p_0_2p : Option Addr) (p_0_2l p_0_2c : Nat) (p_0_3 : Int) (p_0_4 : Int) (want_1p : Option Addr) (want_1l want_1c : Nat) (points_2 : Int) (w : World) : Lw_takes_sd ⟨p_0_0p, p_0_0l, p_0_0c⟩ ⟨p_0_1p, p_0_1l, p_0_1c⟩ ⟨p_0_2p, p_0_2l, p_0_2c⟩ p_0_3 p_0_4 ⟨want_1p, want_1l, want_1c⟩ points_2 (fun (r0 : Bool) (w' : World) => Kv (Value.bool r0) w') w = W Try.prog Lw_takes_E 34 (Lw_takes_A Kv) Lw_takes_C [] (retQ Try.prog Try.f17.results Kv) [] (startS [(Value.agg #[(Value.slice p_0_0p p_0_0l p_0_0c), (Value.slice p_0_1p p_0_1l p_0_1c), (Value.slice p_0_2p p_0_2l p_0_2c), (Value.int .i64 p_0_3), (Value.int .i64 p_0_4)]), (Value.slice want_1p want_1l want_1c), (Value.int .i64 points_2)]) w := by kernel_rfl
theorem Lw_takes_n (Kv : VW) : obAt (Lw_takes_O Kv) 0 = none := by kernel_rfl
theorem Lw_takes_h (Kv : VW) : ∀ k, holdsAt Try.prog Lw_takes_E 34 (Lw_takes_O Kv) k := fun _ => holdsAt_ge (Lw_takes_n Kv) (Nat.zero_le _)
theorem Lw_takes_ok : Sound Try.prog 17 Lw_takes_S := ⟨Try.call17, fun vs w Kv h => by
  unfold Lw_takes_S at h
  split at h
  · have h := h.out
    rw [Lw_takes_e] at h
    exact calls_sound (Γ := Lw_takes_E) progMixed ⟨.inl Cb_Solve_ok, .inl Rf_Ints_ok, trivial⟩ Try.func17 (code := Lw_takes_C) (by kernel_rfl) (Lw_takes_A Kv) Kv (holds_all (Lw_takes_h Kv)) (Nat.le_of_ble_eq_true (by kernel_rfl)) h
  · exact h.elim⟩
/-! Lw_sanity -/
def Lw_sanity_k1d (one_1 : Bool) (two_2 : Bool) (K : Bool → World → Prop) (w : World) : Prop :=
  Lw_example_sh (18 : Int) (0 : Int) (1 : Int) (fun (r27_0 : Sl) (r27_1 : Sl) (r27_2 : Sl) (r27_3 : Int) (r27_4 : Int) (w26 : World) => let w28 : World := w26.alloc (Obj.cells #[(Value.int .i64 (0 : Int)), (Value.int .i64 (2 : Int))] 3)
  Cb_Paid_sh r27_0 r27_1 r27_2 r27_3 r27_4 (Sl.mk (some (Addr.mk w26.heap.size 0 none)) 2 2) (fun (r30 : Int) (r31 : Bool) (w29 : World) => cnd one_1
    (cnd two_2
    (cnd (r30 == (18 : Int))
    (K r31 w29)
    (K false w29))
    (K false w29))
    (K false w29)) w28) w
structure Lw_sanity_k1 (one_1 : Bool) (two_2 : Bool) (K : Bool → World → Prop) (w : World) : Prop where
  out : Lw_sanity_k1d one_1 two_2 K w
def Lw_sanity_k0d (one_1 : Bool) (K : Bool → World → Prop) (w : World) : Prop :=
  Lw_example_sh (19 : Int) (1 : Int) (0 : Int) (fun (r17_0 : Sl) (r17_1 : Sl) (r17_2 : Sl) (r17_3 : Int) (r17_4 : Int) (w16 : World) => let w18 : World := w16.alloc (Obj.cells #[(Value.int .i64 (1 : Int)), (Value.int .i64 (2 : Int))] 3)
  Lw_takes_sh r17_0 r17_1 r17_2 r17_3 r17_4 (Sl.mk (some (Addr.mk w16.heap.size 0 none)) 2 2) (13 : Int) (fun (r20 : Bool) (w19 : World) => cnd r20
    (Lw_example_sh (6 : Int) (0 : Int) (0 : Int) (fun (r22_0 : Sl) (r22_1 : Sl) (r22_2 : Sl) (r22_3 : Int) (r22_4 : Int) (w21 : World) => let w23 : World := w21.alloc (Obj.cells #[(Value.int .i64 (-1 : Int)), (Value.int .i64 (-1 : Int))] 3)
  Lw_takes_sh r22_0 r22_1 r22_2 r22_3 r22_4 (Sl.mk (some (Addr.mk w21.heap.size 0 none)) 2 2) (0 : Int) (fun (r25 : Bool) (w24 : World) => Lw_sanity_k1 one_1 r25 K w24) w23) w19)
    (Lw_sanity_k1 one_1 false K w19)) w18) w
structure Lw_sanity_k0 (one_1 : Bool) (K : Bool → World → Prop) (w : World) : Prop where
  out : Lw_sanity_k0d one_1 K w
def Lw_sanity_sd (K : Bool → World → Prop) (w : World) : Prop :=
  Lw_example_sh (19 : Int) (0 : Int) (0 : Int) (fun (r2_0 : Sl) (r2_1 : Sl) (r2_2 : Sl) (r2_3 : Int) (r2_4 : Int) (w1 : World) => let w3 : World := w1.alloc (Obj.cells #[(Value.int .i64 (0 : Int)), (Value.int .i64 (2 : Int))] 3)
  Lw_takes_sh r2_0 r2_1 r2_2 r2_3 r2_4 (Sl.mk (some (Addr.mk w1.heap.size 0 none)) 2 2) (15 : Int) (fun (r5 : Bool) (w4 : World) => cnd r5
    (Lw_example_sh (18 : Int) (0 : Int) (0 : Int) (fun (r7_0 : Sl) (r7_1 : Sl) (r7_2 : Sl) (r7_3 : Int) (r7_4 : Int) (w6 : World) => let w8 : World := w6.alloc (Obj.cells #[(Value.int .i64 (1 : Int)), (Value.int .i64 (2 : Int))] 3)
  Lw_takes_sh r7_0 r7_1 r7_2 r7_3 r7_4 (Sl.mk (some (Addr.mk w6.heap.size 0 none)) 2 2) (13 : Int) (fun (r10 : Bool) (w9 : World) => cnd r10
    (Lw_example_sh (18 : Int) (0 : Int) (1 : Int) (fun (r12_0 : Sl) (r12_1 : Sl) (r12_2 : Sl) (r12_3 : Int) (r12_4 : Int) (w11 : World) => let w13 : World := w11.alloc (Obj.cells #[(Value.int .i64 (0 : Int)), (Value.int .i64 (2 : Int))] 3)
  Lw_takes_sh r12_0 r12_1 r12_2 r12_3 r12_4 (Sl.mk (some (Addr.mk w11.heap.size 0 none)) 2 2) (15 : Int) (fun (r15 : Bool) (w14 : World) => Lw_sanity_k0 r15 K w14) w13) w9)
    (Lw_sanity_k0 false K w9)) w8) w4)
    (Lw_sanity_k0 false K w4)) w3) w
structure Lw_sanity_sh (K : Bool → World → Prop) (w : World) : Prop where
  out : Lw_sanity_sd K w
def Lw_sanity_P0 (Kv : VW) (ρ : Rho) (vs : List Value) (w : World) : Prop :=
  match ρ, vs with
  | _, [.bool one_1] => Lw_sanity_k0 one_1 (fun (r0 : Bool) (w' : World) => Kv (Value.bool r0) w') w
  | _, _ => False
def Lw_sanity_P1 (Kv : VW) (ρ : Rho) (vs : List Value) (w : World) : Prop :=
  match ρ, vs with
  | _, [.bool one_1, .bool two_2] => Lw_sanity_k1 one_1 two_2 (fun (r0 : Bool) (w' : World) => Kv (Value.bool r0) w') w
  | _, _ => False
noncomputable def Lw_sanity_S : Pw.Spec := fun vs w Kv =>
  match vs with
  | [] => Lw_sanity_sh (fun (r0 : Bool) (w' : World) => Kv (Value.bool r0) w') w
  | _ => False
noncomputable def Lw_sanity_E : Pw.Env := [(15, Cb_Paid_S), (17, Lw_takes_S), (18, Lw_example_S)]
noncomputable def Lw_sanity_C : Code := (Try.f7.body).getD .skip
noncomputable def Lw_sanity_A (Kv : VW) : Pw.A :=
  (A.seq (A.reg (RA.run RA.done))
   (A.seq (A.reg (RA.run (RA.run (RA.run (RA.run (RA.spl 8 (RA.run (RA.run (RA.run (RA.run (RA.run (RA.spl 13 (RA.run (RA.run (RA.run (RA.run (RA.run RA.done))))) (RA.skp (RA.skp (RA.skp (RA.run (RA.run RA.done))))))))))) (RA.skp (RA.skp (RA.skp (RA.run (RA.run (RA.skp (RA.skp (RA.skp (RA.run (RA.run RA.done))))))))))))))))
   (A.cut [1] (Lw_sanity_P0 Kv) (A.seq (A.reg (RA.run (RA.run (RA.run (RA.run (RA.spl 21 (RA.run (RA.run (RA.run (RA.run (RA.run RA.done))))) (RA.skp (RA.skp (RA.skp (RA.run (RA.run RA.done)))))))))))
   (A.cut [1, 2] (Lw_sanity_P1 Kv) (A.seq (A.reg (RA.run (RA.run (RA.run (RA.run (RA.run (RA.run (RA.run (RA.run RA.done)))))))))
   (A.seq (A.reg (RA.run (RA.run (RA.spl 33 (RA.run (RA.run (RA.run (RA.spl 36 (RA.run (RA.run (RA.run (RA.run (RA.spl 40 (RA.run (RA.run (RA.run RA.done))) (RA.skp (RA.run (RA.run RA.done)))))))) (RA.skp (RA.skp (RA.run (RA.run (RA.skp (RA.run (RA.run RA.done))))))))))) (RA.skp (RA.run (RA.run (RA.skp (RA.skp (RA.run (RA.run (RA.skp (RA.run (RA.run RA.done))))))))))))))
   A.leaf)))))))
noncomputable def Lw_sanity_O (Kv : VW) : List Ob := (obs Try.prog Lw_sanity_E 43 (Lw_sanity_A Kv) Lw_sanity_C (fun _ => retQ Try.prog Try.f7.results Kv))
theorem Lw_sanity_e (Kv : VW) (w : World) : Lw_sanity_sd (fun (r0 : Bool) (w' : World) => Kv (Value.bool r0) w') w = W Try.prog Lw_sanity_E 43 (Lw_sanity_A Kv) Lw_sanity_C [] (retQ Try.prog Try.f7.results Kv) [] (startS []) w := by kernel_rfl
theorem Lw_sanity_e0 (Kv : VW) (ρ : Rho) (one_1 : Bool) (w : World) : Lw_sanity_k0d one_1 (fun (r0 : Bool) (w' : World) => Kv (Value.bool r0) w') w = goalAt Try.prog Lw_sanity_E 43 (Lw_sanity_O Kv) 0 (ρ) [(Value.bool one_1)] w := by kernel_rfl
theorem Lw_sanity_q0 (Kv : VW) (ρ : Rho) (vs : List Value) (w : World) : labAt (Lw_sanity_O Kv) 0 ρ vs w = Lw_sanity_P0 Kv ρ vs w := by kernel_rfl
theorem Lw_sanity_h0 (Kv : VW) : holdsAt Try.prog Lw_sanity_E 43 (Lw_sanity_O Kv) 0 := holdsAt_cut (.inl (by kernel_rfl)) (fun ρ vs w h => by
  rw [Lw_sanity_q0] at h
  unfold Lw_sanity_P0 at h
  split at h
  · rw [← Lw_sanity_e0]; exact h.out
  · exact h.elim)
theorem Lw_sanity_e1 (Kv : VW) (ρ : Rho) (one_1 : Bool) (two_2 : Bool) (w : World) : Lw_sanity_k1d one_1 two_2 (fun (r0 : Bool) (w' : World) => Kv (Value.bool r0) w') w = goalAt Try.prog Lw_sanity_E 43 (Lw_sanity_O Kv) 1 (ρ) [(Value.bool one_1), (Value.bool two_2)] w := by kernel_rfl
theorem Lw_sanity_q1 (Kv : VW) (ρ : Rho) (vs : List Value) (w : World) : labAt (Lw_sanity_O Kv) 1 ρ vs w = Lw_sanity_P1 Kv ρ vs w := by kernel_rfl
theorem Lw_sanity_h1 (Kv : VW) : holdsAt Try.prog Lw_sanity_E 43 (Lw_sanity_O Kv) 1 := holdsAt_cut (.inl (by kernel_rfl)) (fun ρ vs w h => by
  rw [Lw_sanity_q1] at h
  unfold Lw_sanity_P1 at h
  split at h
  · rw [← Lw_sanity_e1]; exact h.out
  · exact h.elim)
theorem Lw_sanity_n (Kv : VW) : obAt (Lw_sanity_O Kv) 2 = none := by kernel_rfl
theorem Lw_sanity_h (Kv : VW) : ∀ k, holdsAt Try.prog Lw_sanity_E 43 (Lw_sanity_O Kv) k := fun k => match k with
  | 0 => Lw_sanity_h0 Kv
  | 1 => Lw_sanity_h1 Kv
  | _k + 2 => holdsAt_ge (Lw_sanity_n Kv) (Nat.le_add_left _ _)
theorem Lw_sanity_ok : Sound Try.prog 7 Lw_sanity_S := ⟨Try.call7, fun vs w Kv h => by
  unfold Lw_sanity_S at h
  split at h
  · have h := h.out
    rw [Lw_sanity_e] at h
    exact calls_sound (Γ := Lw_sanity_E) progMixed ⟨.inl Cb_Paid_ok, .inl Lw_takes_ok, .inl Lw_example_ok, trivial⟩ Try.func7 (code := Lw_sanity_C) (by kernel_rfl) (Lw_sanity_A Kv) Kv (holds_all (Lw_sanity_h Kv)) (Nat.le_of_ble_eq_true (by kernel_rfl)) h
  · exact h.elim⟩
/-! Lw_CombineMore -/
def Lw_CombineMore_k0d (up_5 : Bool) (work_7 : Int) (a_8 : Addr) (e_9 : Int) (q_10 : Addr) (b_11 : Addr) (f_12 : Int) (K : Bool → World → Prop) (w : World) : Prop :=
  ∃ x49 : Sl, w.cell? q_10 = some (Value.slice x49.p x49.l x49.c) ∧ ∃ x50 : Sl, w.cell? (q_10.add 1) = some (Value.slice x50.p x50.l x50.c) ∧ ∃ x51 : Sl, w.cell? (q_10.add 2) = some (Value.slice x51.p x51.l x51.c) ∧ ∃ x52 : Int, w.cell? (q_10.add 3) = some (Value.int .i64 x52) ∧ ∃ x53 : Int, w.cell? (q_10.add 4) = some (Value.int .i64 x53) ∧ Cb_Solve_sh x49 x50 x51 x52 x53 work_7 (fun (r55_0 : Sl) (r55_1 : Int) (r55_2 : Int) (r55_3 : Sl) (r56 : Int) (w54 : World) => let w57 : World := w54.alloc (Obj.cells #[(Value.slice none 0 0), (Value.int .i64 (0 : Int)), (Value.int .i64 (0 : Int)), (Value.slice none 0 0)] 33)
  stN w57 (Addr.mk w54.heap.size 0 none) [(Value.slice r55_0.p r55_0.l r55_0.c), (Value.int .i64 r55_1), (Value.int .i64 r55_2), (Value.slice r55_3.p r55_3.l r55_3.c)] fun (w58 : World) => wrOk w58 (q_10.add 3) ∧ 
  (let w59 : World := w58.setCell (q_10.add 3) (Value.int .i64 (0 : Int))
  ∃ x60 : Sl, w59.cell? q_10 = some (Value.slice x60.p x60.l x60.c) ∧ ∃ x61 : Sl, w59.cell? (q_10.add 1) = some (Value.slice x61.p x61.l x61.c) ∧ ∃ x62 : Sl, w59.cell? (q_10.add 2) = some (Value.slice x62.p x62.l x62.c) ∧ ∃ x63 : Int, w59.cell? (q_10.add 3) = some (Value.int .i64 x63) ∧ ∃ x64 : Int, w59.cell? (q_10.add 4) = some (Value.int .i64 x64) ∧ Cb_Solve_sh x60 x61 x62 x63 x64 work_7 (fun (r66_0 : Sl) (r66_1 : Int) (r66_2 : Int) (r66_3 : Sl) (r67 : Int) (w65 : World) => let w68 : World := w65.alloc (Obj.cells #[(Value.slice none 0 0), (Value.int .i64 (0 : Int)), (Value.int .i64 (0 : Int)), (Value.slice none 0 0)] 33)
  stN w68 (Addr.mk w65.heap.size 0 none) [(Value.slice r66_0.p r66_0.l r66_0.c), (Value.int .i64 r66_1), (Value.int .i64 r66_2), (Value.slice r66_3.p r66_3.l r66_3.c)] fun (w69 : World) => cnd up_5
    (cnd (e_9 == (0 : Int))
    (cnd (f_12 == (0 : Int))
    (cnd (r56 == (0 : Int))
    (cnd (r67 == (0 : Int))
    (∃ x70 : Int, w69.cell? (a_8.add 1) = some (Value.int .i64 x70) ∧ ∃ x71 : Int, w69.cell? (b_11.add 1) = some (Value.int .i64 x71) ∧ cnd (decide (x70 ≤ x71))
    (∃ x72 : Int, w69.cell? (b_11.add 1) = some (Value.int .i64 x72) ∧ ∃ x73 : Int, w69.cell? (Addr.mk w54.heap.size 1 none) = some (Value.int .i64 x73) ∧ cnd (decide (x72 ≤ x73))
    (∃ x74 : Int, w69.cell? (Addr.mk w54.heap.size 1 none) = some (Value.int .i64 x74) ∧ ∃ x75 : Int, w69.cell? (Addr.mk w65.heap.size 1 none) = some (Value.int .i64 x75) ∧ K (decide (x74 ≤ x75)) w69)
    (K false w69))
    (K false w69))
    (K false w69))
    (K false w69))
    (K false w69))
    (K false w69))
    (K false w69)) w59)) w
structure Lw_CombineMore_k0 (up_5 : Bool) (work_7 : Int) (a_8 : Addr) (e_9 : Int) (q_10 : Addr) (b_11 : Addr) (f_12 : Int) (K : Bool → World → Prop) (w : World) : Prop where
  out : Lw_CombineMore_k0d up_5 work_7 a_8 e_9 q_10 b_11 f_12 K w
def Lw_CombineMore_sd (l_0 : Sl) (more_1_0 : Int) (more_1_1 : Int) (K : Bool → World → Prop) (w : World) : Prop :=
  let w1 : World := w.alloc (Obj.cells #[(Value.int .u8 more_1_0), (Value.int .u8 more_1_1)] 23)
  Lw_sanity_sh (fun (r3 : Bool) (w2 : World) => Rf_Made_sh l_0 (fun (r5_0 : Sl) (r5_1 : Sl) (r5_2 : Sl) (r5_3 : Int) (r5_4 : Int) (w4 : World) => let w6 : World := w4.alloc (Obj.cells #[(Value.slice none 0 0), (Value.slice none 0 0), (Value.slice none 0 0), (Value.int .i64 (0 : Int)), (Value.int .i64 (0 : Int))] 28)
  stN w6 (Addr.mk w4.heap.size 0 none) [(Value.slice r5_0.p r5_0.l r5_0.c), (Value.slice r5_1.p r5_1.l r5_1.c), (Value.slice r5_2.p r5_2.l r5_2.c), (Value.int .i64 r5_3), (Value.int .i64 r5_4)] fun (w7 : World) => ∃ x8 : Sl, w7.cell? (Addr.mk w4.heap.size 0 none) = some (Value.slice x8.p x8.l x8.c) ∧ ∃ x9 : Sl, w7.cell? (Addr.mk w4.heap.size 1 none) = some (Value.slice x9.p x9.l x9.c) ∧ ∃ x10 : Sl, w7.cell? (Addr.mk w4.heap.size 2 none) = some (Value.slice x10.p x10.l x10.c) ∧ ∃ x11 : Int, w7.cell? (Addr.mk w4.heap.size 3 none) = some (Value.int .i64 x11) ∧ ∃ x12 : Int, w7.cell? (Addr.mk w4.heap.size 4 none) = some (Value.int .i64 x12) ∧ Rf_Prefixes_sh x8 x9 x10 x11 x12 (fun (r14 : Int) (w13 : World) => ∃ x15 : Sl, w13.cell? (Addr.mk w4.heap.size 0 none) = some (Value.slice x15.p x15.l x15.c) ∧ ∃ x16 : Sl, w13.cell? (Addr.mk w4.heap.size 1 none) = some (Value.slice x16.p x16.l x16.c) ∧ ∃ x17 : Sl, w13.cell? (Addr.mk w4.heap.size 2 none) = some (Value.slice x17.p x17.l x17.c) ∧ ∃ x18 : Int, w13.cell? (Addr.mk w4.heap.size 3 none) = some (Value.int .i64 x18) ∧ ∃ x19 : Int, w13.cell? (Addr.mk w4.heap.size 4 none) = some (Value.int .i64 x19) ∧ Cb_Solve_sh x15 x16 x17 x18 x19 r14 (fun (r21_0 : Sl) (r21_1 : Int) (r21_2 : Int) (r21_3 : Sl) (r22 : Int) (w20 : World) => let w23 : World := w20.alloc (Obj.cells #[(Value.slice none 0 0), (Value.int .i64 (0 : Int)), (Value.int .i64 (0 : Int)), (Value.slice none 0 0)] 33)
  stN w23 (Addr.mk w20.heap.size 0 none) [(Value.slice r21_0.p r21_0.l r21_0.c), (Value.int .i64 r21_1), (Value.int .i64 r21_2), (Value.slice r21_3.p r21_3.l r21_3.c)] fun (w24 : World) => ∃ x25 : Sl, w24.cell? (Addr.mk w4.heap.size 0 none) = some (Value.slice x25.p x25.l x25.c) ∧ ∃ x26 : Sl, w24.cell? (Addr.mk w4.heap.size 1 none) = some (Value.slice x26.p x26.l x26.c) ∧ ∃ x27 : Sl, w24.cell? (Addr.mk w4.heap.size 2 none) = some (Value.slice x27.p x27.l x27.c) ∧ ∃ x28 : Int, w24.cell? (Addr.mk w4.heap.size 3 none) = some (Value.int .i64 x28) ∧ ∃ x29 : Int, w24.cell? (Addr.mk w4.heap.size 4 none) = some (Value.int .i64 x29) ∧ let w30 : World := w24.alloc (Obj.cells #[(Value.slice none 0 0), (Value.slice none 0 0), (Value.slice none 0 0), (Value.int .i64 (0 : Int)), (Value.int .i64 (0 : Int))] 28)
  stN w30 (Addr.mk w24.heap.size 0 none) [(Value.slice x25.p x25.l x25.c), (Value.slice x26.p x26.l x26.c), (Value.slice x27.p x27.l x27.c), (Value.int .i64 x28), (Value.int .i64 x29)] fun (w31 : World) => ∃ x32 : Int, w31.cell? (Addr.mk w4.heap.size 4 none) = some (Value.int .i64 x32) ∧ (0 ≤ (0 : Int) ∧ (0 : Int) < (2 : Nat)) ∧ ∃ x33 : Int, w31.cell? ((Addr.mk w.heap.size 0 none).add ((0 : Int).toNat * 1)) = some (Value.int .u8 x33) ∧ (20 : Int) ≠ 0 ∧ inR .i64 (Int.tmod x33 (20 : Int)) ∧ inR .i64 (x32 + (Int.tmod x33 (20 : Int))) ∧ wrOk w31 (Addr.mk w24.heap.size 4 none) ∧ 
  (let w34 : World := w31.setCell (Addr.mk w24.heap.size 4 none) (Value.int .i64 (x32 + (Int.tmod x33 (20 : Int))))
  ∃ x35 : Sl, w34.cell? (Addr.mk w24.heap.size 0 none) = some (Value.slice x35.p x35.l x35.c) ∧ ∃ x36 : Sl, w34.cell? (Addr.mk w24.heap.size 1 none) = some (Value.slice x36.p x36.l x36.c) ∧ ∃ x37 : Sl, w34.cell? (Addr.mk w24.heap.size 2 none) = some (Value.slice x37.p x37.l x37.c) ∧ ∃ x38 : Int, w34.cell? (Addr.mk w24.heap.size 3 none) = some (Value.int .i64 x38) ∧ ∃ x39 : Int, w34.cell? (Addr.mk w24.heap.size 4 none) = some (Value.int .i64 x39) ∧ Cb_Solve_sh x35 x36 x37 x38 x39 r14 (fun (r41_0 : Sl) (r41_1 : Int) (r41_2 : Int) (r41_3 : Sl) (r42 : Int) (w40 : World) => let w43 : World := w40.alloc (Obj.cells #[(Value.slice none 0 0), (Value.int .i64 (0 : Int)), (Value.int .i64 (0 : Int)), (Value.slice none 0 0)] 33)
  stN w43 (Addr.mk w40.heap.size 0 none) [(Value.slice r41_0.p r41_0.l r41_0.c), (Value.int .i64 r41_1), (Value.int .i64 r41_2), (Value.slice r41_3.p r41_3.l r41_3.c)] fun (w44 : World) => ∃ x45 : Int, w44.cell? (Addr.mk w4.heap.size 3 none) = some (Value.int .i64 x45) ∧ cnd (decide (x45 > (0 : Int)))
    (∃ x46 : Int, w44.cell? (Addr.mk w4.heap.size 3 none) = some (Value.int .i64 x46) ∧ (0 ≤ (1 : Int) ∧ (1 : Int) < (2 : Nat)) ∧ ∃ x47 : Int, w44.cell? ((Addr.mk w.heap.size 0 none).add ((1 : Int).toNat * 1)) = some (Value.int .u8 x47) ∧ (3 : Int) ≠ 0 ∧ inR .i64 (Int.tmod x47 (3 : Int)) ∧ inR .i64 (x46 + (Int.tmod x47 (3 : Int))) ∧ wrOk w44 (Addr.mk w24.heap.size 3 none) ∧ 
  (let w48 : World := w44.setCell (Addr.mk w24.heap.size 3 none) (Value.int .i64 (x46 + (Int.tmod x47 (3 : Int))))
  Lw_CombineMore_k0 r3 r14 (Addr.mk w20.heap.size 0 none) r22 (Addr.mk w24.heap.size 0 none) (Addr.mk w40.heap.size 0 none) r42 K w48))
    (Lw_CombineMore_k0 r3 r14 (Addr.mk w20.heap.size 0 none) r22 (Addr.mk w24.heap.size 0 none) (Addr.mk w40.heap.size 0 none) r42 K w44)) w34)) w13) w7) w2) w1
structure Lw_CombineMore_sh (l_0 : Sl) (more_1_0 : Int) (more_1_1 : Int) (K : Bool → World → Prop) (w : World) : Prop where
  out : Lw_CombineMore_sd l_0 more_1_0 more_1_1 K w
def Lw_CombineMore_P0 (Kv : VW) (ρ : Rho) (vs : List Value) (w : World) : Prop :=
  match ρ, vs with
  | _, [.bool up_5, .int .i64 work_7, .pointer (some a_8), .int .i64 e_9, .pointer (some q_10), .pointer (some b_11), .int .i64 f_12] => Lw_CombineMore_k0 up_5 work_7 a_8 e_9 q_10 b_11 f_12 (fun (r0 : Bool) (w' : World) => Kv (Value.bool r0) w') w
  | _, _ => False
noncomputable def Lw_CombineMore_S : Pw.Spec := fun vs w Kv =>
  match vs with
  | [.slice l_0p l_0l l_0c, .agg ⟨[.int .u8 more_1_0, .int .u8 more_1_1]⟩] => Lw_CombineMore_sh ⟨l_0p, l_0l, l_0c⟩ more_1_0 more_1_1 (fun (r0 : Bool) (w' : World) => Kv (Value.bool r0) w') w
  | _ => False
noncomputable def Lw_CombineMore_E : Pw.Env := [(7, Lw_sanity_S), (8, Rf_Made_S), (9, Rf_Prefixes_S), (10, Cb_Solve_S)]
noncomputable def Lw_CombineMore_C : Code := (Try.f3.body).getD .skip
noncomputable def Lw_CombineMore_A (Kv : VW) : Pw.A :=
  (A.seq (A.reg (RA.run (RA.run RA.done)))
   (A.seq (A.reg (RA.run (RA.run RA.done)))
   (A.seq (A.reg (RA.run (RA.run (RA.run (RA.run RA.done)))))
   (A.seq (A.reg (RA.run (RA.run (RA.run RA.done))))
   (A.seq (A.reg (RA.run (RA.run (RA.run (RA.run (RA.run (RA.run (RA.run (RA.run (RA.run RA.done))))))))))
   (A.seq (A.reg (RA.run (RA.run (RA.run RA.done))))
   (A.seq (A.reg (RA.run (RA.run (RA.run (RA.run (RA.run (RA.run (RA.run (RA.run (RA.run RA.done))))))))))
   (A.seq (A.reg (RA.run (RA.run (RA.run (RA.run (RA.run (RA.run (RA.run (RA.run (RA.run RA.done))))))))))
   (A.seq (A.seq (A.reg (RA.run (RA.run (RA.run RA.done))))
   (A.cond (A.reg (RA.run (RA.run (RA.run (RA.run (RA.run (RA.run (RA.run (RA.run (RA.run RA.done))))))))))
   A.leaf))
   (A.cut [5, 7, 8, 9, 10, 11, 12] (Lw_CombineMore_P0 Kv) (A.seq (A.reg (RA.run (RA.run (RA.run (RA.run (RA.run (RA.run (RA.run (RA.run (RA.run RA.done))))))))))
   (A.seq (A.reg (RA.run (RA.run RA.done)))
   (A.seq (A.reg (RA.run (RA.run (RA.run (RA.run (RA.run (RA.run (RA.run (RA.run (RA.run RA.done))))))))))
   (A.seq (A.reg (RA.run (RA.run (RA.spl 68 (RA.run (RA.run (RA.run (RA.run (RA.spl 72 (RA.run (RA.run (RA.run (RA.run (RA.spl 76 (RA.run (RA.run (RA.run (RA.run (RA.spl 80 (RA.run (RA.run (RA.run (RA.run (RA.spl 84 (RA.run (RA.run (RA.run (RA.run (RA.run (RA.run (RA.run (RA.spl 91 (RA.run (RA.run (RA.run (RA.run (RA.run (RA.run (RA.run (RA.spl 98 (RA.run (RA.run (RA.run (RA.run (RA.run (RA.run (RA.run RA.done))))))) (RA.skp (RA.skp (RA.skp (RA.skp (RA.skp (RA.run (RA.run RA.done))))))))))))))) (RA.skp (RA.skp (RA.skp (RA.skp (RA.skp (RA.run (RA.run (RA.skp (RA.skp (RA.skp (RA.skp (RA.skp (RA.run (RA.run RA.done)))))))))))))))))))))) (RA.skp (RA.skp (RA.skp (RA.skp (RA.skp (RA.run (RA.run (RA.skp (RA.skp (RA.skp (RA.skp (RA.skp (RA.run (RA.run (RA.skp (RA.skp (RA.skp (RA.skp (RA.skp (RA.run (RA.run RA.done)))))))))))))))))))))))))) (RA.skp (RA.skp (RA.run (RA.run (RA.skp (RA.skp (RA.skp (RA.skp (RA.skp (RA.run (RA.run (RA.skp (RA.skp (RA.skp (RA.skp (RA.skp (RA.run (RA.run (RA.skp (RA.skp (RA.skp (RA.skp (RA.skp (RA.run (RA.run RA.done)))))))))))))))))))))))))))))) (RA.skp (RA.skp (RA.run (RA.run (RA.skp (RA.skp (RA.run (RA.run (RA.skp (RA.skp (RA.skp (RA.skp (RA.skp (RA.run (RA.run (RA.skp (RA.skp (RA.skp (RA.skp (RA.skp (RA.run (RA.run (RA.skp (RA.skp (RA.skp (RA.skp (RA.skp (RA.run (RA.run RA.done)))))))))))))))))))))))))))))))))) (RA.skp (RA.skp (RA.run (RA.run (RA.skp (RA.skp (RA.run (RA.run (RA.skp (RA.skp (RA.run (RA.run (RA.skp (RA.skp (RA.skp (RA.skp (RA.skp (RA.run (RA.run (RA.skp (RA.skp (RA.skp (RA.skp (RA.skp (RA.run (RA.run (RA.skp (RA.skp (RA.skp (RA.skp (RA.skp (RA.run (RA.run RA.done)))))))))))))))))))))))))))))))))))))) (RA.skp (RA.skp (RA.run (RA.run (RA.skp (RA.skp (RA.run (RA.run (RA.skp (RA.skp (RA.run (RA.run (RA.skp (RA.skp (RA.run (RA.run (RA.skp (RA.skp (RA.skp (RA.skp (RA.skp (RA.run (RA.run (RA.skp (RA.skp (RA.skp (RA.skp (RA.skp (RA.run (RA.run (RA.skp (RA.skp (RA.skp (RA.skp (RA.skp (RA.run (RA.run RA.done)))))))))))))))))))))))))))))))))))))))))
   A.leaf))))))))))))))
noncomputable def Lw_CombineMore_O (Kv : VW) : List Ob := (obs Try.prog Lw_CombineMore_E 105 (Lw_CombineMore_A Kv) Lw_CombineMore_C (fun _ => retQ Try.prog Try.f3.results Kv))
theorem Lw_CombineMore_e (Kv : VW) (l_0p : Option Addr) (l_0l l_0c : Nat) (more_1_0 : Int) (more_1_1 : Int) (w : World) : Lw_CombineMore_sd ⟨l_0p, l_0l, l_0c⟩ more_1_0 more_1_1 (fun (r0 : Bool) (w' : World) => Kv (Value.bool r0) w') w = W Try.prog Lw_CombineMore_E 105 (Lw_CombineMore_A Kv) Lw_CombineMore_C [] (retQ Try.prog Try.f3.results Kv) [] (startS [(Value.slice l_0p l_0l l_0c), (Value.agg #[(Value.int .u8 more_1_0), (Value.int .u8 more_1_1)])]) w := by kernel_rfl
theorem Lw_CombineMore_e0 (Kv : VW) (ρ : Rho) (up_5 : Bool) (work_7 : Int) (a_8 : Addr) (e_9 : Int) (q_10 : Addr) (b_11 : Addr) (f_12 : Int) (w : World) : Lw_CombineMore_k0d up_5 work_7 a_8 e_9 q_10 b_11 f_12 (fun (r0 : Bool) (w' : World) => Kv (Value.bool r0) w') w = goalAt Try.prog Lw_CombineMore_E 105 (Lw_CombineMore_O Kv) 0 (ρ) [(Value.bool up_5), (Value.int .i64 work_7), (Value.pointer (some a_8)), (Value.int .i64 e_9), (Value.pointer (some q_10)), (Value.pointer (some b_11)), (Value.int .i64 f_12)] w := by kernel_rfl
theorem Lw_CombineMore_q0 (Kv : VW) (ρ : Rho) (vs : List Value) (w : World) : labAt (Lw_CombineMore_O Kv) 0 ρ vs w = Lw_CombineMore_P0 Kv ρ vs w := by kernel_rfl
theorem Lw_CombineMore_h0 (Kv : VW) : holdsAt Try.prog Lw_CombineMore_E 105 (Lw_CombineMore_O Kv) 0 := holdsAt_cut (.inl (by kernel_rfl)) (fun ρ vs w h => by
  rw [Lw_CombineMore_q0] at h
  unfold Lw_CombineMore_P0 at h
  split at h
  · rw [← Lw_CombineMore_e0]; exact h.out
  · exact h.elim)
theorem Lw_CombineMore_n (Kv : VW) : obAt (Lw_CombineMore_O Kv) 1 = none := by kernel_rfl
theorem Lw_CombineMore_h (Kv : VW) : ∀ k, holdsAt Try.prog Lw_CombineMore_E 105 (Lw_CombineMore_O Kv) k := fun k => match k with
  | 0 => Lw_CombineMore_h0 Kv
  | _k + 1 => holdsAt_ge (Lw_CombineMore_n Kv) (Nat.le_add_left _ _)
theorem Lw_CombineMore_ok : Sound Try.prog 3 Lw_CombineMore_S := ⟨Try.call3, fun vs w Kv h => by
  unfold Lw_CombineMore_S at h
  split at h
  · have h := h.out
    rw [Lw_CombineMore_e] at h
    exact calls_sound (Γ := Lw_CombineMore_E) progMixed ⟨.inl Lw_sanity_ok, .inl Rf_Made_ok, .inl Rf_Prefixes_ok, .inl Cb_Solve_ok, trivial⟩ Try.func3 (code := Lw_CombineMore_C) (by kernel_rfl) (Lw_CombineMore_A Kv) Kv (holds_all (Lw_CombineMore_h Kv)) (Nat.le_of_ble_eq_true (by kernel_rfl)) h
  · exact h.elim⟩
end Go.Proofs.Ytmkjcheafdionaa
