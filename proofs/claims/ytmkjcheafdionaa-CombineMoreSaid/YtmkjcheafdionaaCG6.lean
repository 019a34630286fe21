/- The bodies' formulas, by program. -/
import Derived.Test.YtmkjcheafdionaaProg
import Derived.KernelRfl
import Derived.Test.YtmkjcheafdionaaPwX
import Derived.Test.YtmkjcheafdionaaCG0
import Derived.Test.YtmkjcheafdionaaCG1
import Derived.Test.YtmkjcheafdionaaCG2
import Derived.Test.YtmkjcheafdionaaCG3
import Derived.Test.YtmkjcheafdionaaCG4
import Derived.Test.YtmkjcheafdionaaCG5
set_option maxRecDepth 20000
namespace Go.Proofs.Ytmkjcheafdionaa
open Go Pw
local notation "vI" => Value.int IntKind.i64
local notation "vS" => Value.slice
local notation "vP" => Value.pointer
local notation "rR" => RA.run
local notation "rK" => RA.skp
local notation "aQ" => A.seq
/-! probitylaw21_example -/
def probitylaw21_example_k0d (t_6 : Addr) (p_7 : Addr)  (K : Sl → Sl → Sl → Int → Int → World → Prop) (w : World) : Prop :=
  ∃ x10 : Sl, w.cell? p_7 = some (vS x10.p x10.l x10.c) ∧ ∃ x11 : Sl, w.cell? (p_7.add 1) = some (vS x11.p x11.l x11.c) ∧ ∃ x12 : Sl, w.cell? (p_7.add 2) = some (vS x12.p x12.l x12.c) ∧ ∃ x13 : Int, w.cell? (p_7.add 3) = some (vI x13) ∧ ∃ x14 : Int, w.cell? (p_7.add 4) = some (vI x14) ∧ stN w t_6 [(vS x10.p x10.l x10.c), (vS x11.p x11.l x11.c), (vS x12.p x12.l x12.c), (vI x13), (vI x14)] fun (w15 : World) => ∃ x16 : Sl, w15.cell? t_6 = some (vS x16.p x16.l x16.c) ∧ ∃ x17 : Sl, w15.cell? (t_6.add 1) = some (vS x17.p x17.l x17.c) ∧ ∃ x18 : Sl, w15.cell? (t_6.add 2) = some (vS x18.p x18.l x18.c) ∧ ∃ x19 : Int, w15.cell? (t_6.add 3) = some (vI x19) ∧ ∃ x20 : Int, w15.cell? (t_6.add 4) = some (vI x20) ∧ K x16 x17 x18 x19 x20 w15
structure probitylaw21_example_k0 (t_6 : Addr) (p_7 : Addr)  (K : Sl → Sl → Sl → Int → Int → World → Prop) (w : World) : Prop where
  out : probitylaw21_example_k0d t_6 p_7 K w
def probitylaw21_example_sd (budget_0 : Int) (most_1 : Int) (off_2 : Int) (K : Sl → Sl → Sl → Int → Int → World → Prop) (w : World) : Prop :=
  let w1 : World := w.alloc (Obj.cells #[(vS none 0 0), (vS none 0 0), (vS none 0 0), (vI (0 : Int)), (vI (0 : Int))] 28)
  let w2 : World := w1.alloc (Obj.cells #[(vI (1 : Int)), (vI (2 : Int))] 3)
  let w3 : World := w2.alloc (Obj.cells #[(vS none 0 0), (vS none 0 0), (vS none 0 0), (vI (0 : Int)), (vI (0 : Int))] 28)
  stN w3 (Addr.mk w2.heap.size 0 none) [(vS (some (Addr.mk w1.heap.size 0 none)) 2 2), (vS none 0 0), (vS none 0 0), (vI most_1), (vI budget_0)] fun (w4 : World) => let w5 : World := w4.alloc (Obj.cells #[(vI (1 : Int)), (vI (5 : Int)), (vI (10 : Int)), (vI (8 : Int)), (vI (1 : Int)), (vI (6 : Int)), (vI (7 : Int)), (vI (6 : Int)), (vI (2 : Int)), (vI (5 : Int)), (vI (9 : Int)), (vI (7 : Int))] 56)
  wrOk w5 (Addr.mk w2.heap.size 1 none) ∧ 
  (let w6 : World := w5.setCell (Addr.mk w2.heap.size 1 none) (vS (some (Addr.mk w4.heap.size 0 none)) 3 3)
  cnd (decide (off_2 > (0 : Int)))
    (let w7 : World := w6.alloc (Obj.cells #[(vI (1 : Int)), (vI (2 : Int))] 3)
  let w8 : World := w7.alloc (Obj.cells #[(vI (5 : Int)), (vS (some (Addr.mk w6.heap.size 0 none)) 2 2), (vI off_2)] 58)
  wrOk w8 (Addr.mk w2.heap.size 2 none) ∧ 
  (let w9 : World := w8.setCell (Addr.mk w2.heap.size 2 none) (vS (some (Addr.mk w7.heap.size 0 none)) 1 1)
  probitylaw21_example_k0 (Addr.mk w.heap.size 0 none) (Addr.mk w2.heap.size 0 none) K w9))
    (probitylaw21_example_k0 (Addr.mk w.heap.size 0 none) (Addr.mk w2.heap.size 0 none) K w6))
structure probitylaw21_example_sh (budget_0 : Int) (most_1 : Int) (off_2 : Int) (K : Sl → Sl → Sl → Int → Int → World → Prop) (w : World) : Prop where
  out : probitylaw21_example_sd budget_0 most_1 off_2 K w
def probitylaw21_example_P0 (Kv : VW) (ρ : Rho) (vs : List Value) (w : World) : Prop :=
  match ρ, vs with
  | _, [.pointer (some t_6), .pointer (some p_7)] => probitylaw21_example_k0 t_6 p_7  (fun (r0_0 : Sl) (r0_1 : Sl) (r0_2 : Sl) (r0_3 : Int) (r0_4 : Int) (w' : World) => Kv (Value.agg #[(vS r0_0.p r0_0.l r0_0.c), (vS r0_1.p r0_1.l r0_1.c), (vS r0_2.p r0_2.l r0_2.c), (vI r0_3), (vI r0_4)]) w') w
  | _, _ => False
noncomputable def probitylaw21_example_S : Pw.Spec := fun vs w Kv =>
  match vs with
  | [.int .i64 budget_0, .int .i64 most_1, .int .i64 off_2] => probitylaw21_example_sh budget_0 most_1 off_2 (fun (r0_0 : Sl) (r0_1 : Sl) (r0_2 : Sl) (r0_3 : Int) (r0_4 : Int) (w' : World) => Kv (Value.agg #[(vS r0_0.p r0_0.l r0_0.c), (vS r0_1.p r0_1.l r0_1.c), (vS r0_2.p r0_2.l r0_2.c), (vI r0_3), (vI r0_4)]) w') w
  | _ => False
noncomputable def probitylaw21_example_E : Pw.Env := []
noncomputable def probitylaw21_example_C : Code := (Try.f18.body).getD .skip
noncomputable def probitylaw21_example_A (Kv : VW) : Pw.A :=
  (aQ (A.reg (rR RA.done))
   (aQ (A.reg (rR (rR (rR (rR (rR (rR RA.done)))))))
   (aQ (A.reg (rR (rR (rR (rR (rR (rR RA.done)))))))
   (aQ (aQ (A.reg (rR (rR RA.done)))
   (A.cond (A.reg (rR (rR (rR (rR (rR (rR RA.done)))))))
   A.leaf))
   (A.cut [6, 7] (probitylaw21_example_P0 Kv) (aQ (A.reg (rR (rR RA.done)))
   A.leaf))))))
noncomputable def probitylaw21_example_O (Kv : VW) : List Ob := (obs Try.prog probitylaw21_example_E 25 (probitylaw21_example_A Kv) probitylaw21_example_C (fun _ => retQ Try.prog Try.f18.results Kv))
theorem probitylaw21_example_e (Kv : VW) (budget_0 : Int) (most_1 : Int) (off_2 : Int) (w : World) : probitylaw21_example_sd budget_0 most_1 off_2 (fun (r0_0 : Sl) (r0_1 : Sl) (r0_2 : Sl) (r0_3 : Int) (r0_4 : Int) (w' : World) => Kv (Value.agg #[(vS r0_0.p r0_0.l r0_0.c), (vS r0_1.p r0_1.l r0_1.c), (vS r0_2.p r0_2.l r0_2.c), (vI r0_3), (vI r0_4)]) w') w = W Try.prog probitylaw21_example_E 25 (probitylaw21_example_A Kv) probitylaw21_example_C [] (retQ Try.prog Try.f18.results Kv) [] (startS [(vI budget_0), (vI most_1), (vI off_2)]) w := by kernel_rfl
theorem probitylaw21_example_e0 (Kv : VW) (ρ : Rho) (t_6 : Addr) (p_7 : Addr) (w : World) : probitylaw21_example_k0d t_6 p_7  (fun (r0_0 : Sl) (r0_1 : Sl) (r0_2 : Sl) (r0_3 : Int) (r0_4 : Int) (w' : World) => Kv (Value.agg #[(vS r0_0.p r0_0.l r0_0.c), (vS r0_1.p r0_1.l r0_1.c), (vS r0_2.p r0_2.l r0_2.c), (vI r0_3), (vI r0_4)]) w') w = goalAt Try.prog probitylaw21_example_E 25 (probitylaw21_example_O Kv) 0 (ρ) [(vP (some t_6)), (vP (some p_7))] w := by kernel_rfl
theorem probitylaw21_example_q0 (Kv : VW) (ρ : Rho) (vs : List Value) (w : World) : labAt (probitylaw21_example_O Kv) 0 ρ vs w = probitylaw21_example_P0 Kv ρ vs w := by kernel_rfl
theorem probitylaw21_example_h0 (Kv : VW) : holdsAt Try.prog probitylaw21_example_E 25 (probitylaw21_example_O Kv) 0 := holdsAt_cut (.inl (by kernel_rfl)) (fun ρ vs w h => by
  rw [probitylaw21_example_q0] at h
  unfold probitylaw21_example_P0 at h
  split at h
  · rw [← probitylaw21_example_e0]; exact h.out
  · exact h.elim)
theorem probitylaw21_example_n (Kv : VW) : obAt (probitylaw21_example_O Kv) 1 = none := by kernel_rfl
theorem probitylaw21_example_h (Kv : VW) : ∀ k, holdsAt Try.prog probitylaw21_example_E 25 (probitylaw21_example_O Kv) k := fun k => match k with
  | 0 => probitylaw21_example_h0 Kv
  | _k + 1 => holdsAt_ge (probitylaw21_example_n Kv) (Nat.le_add_left _ _)
theorem probitylaw21_example_ok : Sound Try.prog 18 probitylaw21_example_S := ⟨Try.call18, fun vs w Kv h => by
  unfold probitylaw21_example_S at h
  split at h
  · have h := h.out
    rw [probitylaw21_example_e] at h
    exact calls_sound (Γ := probitylaw21_example_E) progMixed trivial Try.func18 (code := probitylaw21_example_C) (by kernel_rfl) (probitylaw21_example_A Kv) Kv (holds_all (probitylaw21_example_h Kv)) (Nat.le_of_ble_eq_true (by kernel_rfl)) h
  · exact h.elim⟩
/-! probitylaw21_takes -/
def probitylaw21_takes_sd (p_0_0 : Sl) (p_0_1 : Sl) (p_0_2 : Sl) (p_0_3 : Int) (p_0_4 : Int) (want_1 : Sl) (points_2 : Int) (K : Bool → World → Prop) (w : World) : Prop :=
  let w1 : World := w.alloc (Obj.cells #[(vS p_0_0.p p_0_0.l p_0_0.c), (vS p_0_1.p p_0_1.l p_0_1.c), (vS p_0_2.p p_0_2.l p_0_2.c), (vI p_0_3), (vI p_0_4)] 28)
  ∃ x2 : Sl, w1.cell? (Addr.mk w.heap.size 0 none) = some (vS x2.p x2.l x2.c) ∧ ∃ x3 : Sl, w1.cell? (Addr.mk w.heap.size 1 none) = some (vS x3.p x3.l x3.c) ∧ ∃ x4 : Sl, w1.cell? (Addr.mk w.heap.size 2 none) = some (vS x4.p x4.l x4.c) ∧ ∃ x5 : Int, w1.cell? (Addr.mk w.heap.size 3 none) = some (vI x5) ∧ ∃ x6 : Int, w1.cell? (Addr.mk w.heap.size 4 none) = some (vI x6) ∧ combine_Solve_sh x2 x3 x4 x5 x6 (1000 : Int) (fun (r8_0 : Sl) (r8_1 : Int) (r8_2 : Int) (r8_3 : Sl) (r9 : Int) (w7 : World) => let w10 : World := w7.alloc (Obj.cells #[(vS none 0 0), (vI (0 : Int)), (vI (0 : Int)), (vS none 0 0)] 33)
  stN w10 (Addr.mk w7.heap.size 0 none) [(vS r8_0.p r8_0.l r8_0.c), (vI r8_1), (vI r8_2), (vS r8_3.p r8_3.l r8_3.c)] fun (w11 : World) => cnd (r9 == (0 : Int))
    (∃ x12 : Sl, w11.cell? (Addr.mk w7.heap.size 0 none) = some (vS x12.p x12.l x12.c) ∧ probityref21_Ints_sh x12 want_1 (fun (r14 : Bool) (w13 : World) => cnd r14
    (∃ x15 : Int, w13.cell? (Addr.mk w7.heap.size 1 none) = some (vI x15) ∧ cnd (x15 == points_2)
    (∃ x16 : Int, w13.cell? (Addr.mk w7.heap.size 2 none) = some (vI x16) ∧ K (x16 == points_2) w13)
    (K false w13))
    (K false w13)) w11)
    (K false w11)) w1
structure probitylaw21_takes_sh (p_0_0 : Sl) (p_0_1 : Sl) (p_0_2 : Sl) (p_0_3 : Int) (p_0_4 : Int) (want_1 : Sl) (points_2 : Int) (K : Bool → World → Prop) (w : World) : Prop where
  out : probitylaw21_takes_sd p_0_0 p_0_1 p_0_2 p_0_3 p_0_4 want_1 points_2 K w
noncomputable def probitylaw21_takes_S : Pw.Spec := fun vs w Kv =>
  match vs with
  | [.agg ⟨[.slice p_0_0p p_0_0l p_0_0c, .slice p_0_1p p_0_1l p_0_1c, .slice p_0_2p p_0_2l p_0_2c, .int .i64 p_0_3, .int .i64 p_0_4]⟩, .slice want_1p want_1l want_1c, .int .i64 points_2] => probitylaw21_takes_sh ⟨p_0_0p, p_0_0l, p_0_0c⟩ ⟨p_0_1p, p_0_1l, p_0_1c⟩ ⟨p_0_2p, p_0_2l, p_0_2c⟩ p_0_3 p_0_4 ⟨want_1p, want_1l, want_1c⟩ points_2 (fun (r0 : Bool) (w' : World) => Kv (Value.bool r0) w') w
  | _ => False
noncomputable def probitylaw21_takes_E : Pw.Env := [(10, combine_Solve_S), (33, probityref21_Ints_S)]
noncomputable def probitylaw21_takes_C : Code := (Try.f17.body).getD .skip
noncomputable def probitylaw21_takes_A (_Kv : VW) : Pw.A :=
  (aQ (A.reg (rR (rR RA.done)))
   (aQ (A.reg (rR (rR (rR (rR (rR (rR (rR (rR RA.done)))))))))
   (aQ (A.reg (rR (rR (rR (RA.spl 16 (rR (rR (rR (rR (rR (rR (RA.spl 22 (rR (rR (rR (rR (rR (rR (RA.spl 28 (rR (rR (rR (rR (rR (rR RA.done)))))) (rK (rK (rK (rK (rR (rR RA.done))))))))))))) (rK (rK (rK (rK (rR (rR (rK (rK (rK (rK (rR (rR RA.done))))))))))))))))))) (rK (rK (rK (rK (rR (rR (rK (rK (rK (rK (rR (rR (rK (rK (rK (rK (rR (rR RA.done)))))))))))))))))))))))
   A.leaf)))
noncomputable def probitylaw21_takes_O (Kv : VW) : List Ob := (obs Try.prog probitylaw21_takes_E 34 (probitylaw21_takes_A Kv) probitylaw21_takes_C (fun _ => retQ Try.prog Try.f17.results Kv))
theorem probitylaw21_takes_e (Kv : VW) (p_0_0p : Option Addr) (p_0_0l p_0_0c : Nat) (p_0_1p : Option Addr) (p_0_1l p_0_1c : Nat) (p_0_2p : Option Addr) (p_0_2l p_0_2c : Nat) (p_0_3 : Int) (p_0_4 : Int) (want_1p : Option Addr) (want_1l want_1c : Nat) (points_2 : Int) (w : World) : probitylaw21_takes_sd ⟨p_0_0p, p_0_0l, p_0_0c⟩ ⟨p_0_1p, p_0_1l, p_0_1c⟩ ⟨p_0_2p, p_0_2l, p_0_2c⟩ p_0_3 p_0_4 ⟨want_1p, want_1l, want_1c⟩ points_2 (fun (r0 : Bool) (w' : World) => Kv (Value.bool r0) w') w = W Try.prog probitylaw21_takes_E 34 (probitylaw21_takes_A Kv) probitylaw21_takes_C [] (retQ Try.prog Try.f17.results Kv) [] (startS [(Value.agg #[(vS p_0_0p p_0_0l p_0_0c), (vS p_0_1p p_0_1l p_0_1c), (vS p_0_2p p_0_2l p_0_2c), (vI p_0_3), (vI p_0_4)]), (vS want_1p want_1l want_1c), (vI points_2)]) w := by kernel_rfl
theorem probitylaw21_takes_n (Kv : VW) : obAt (probitylaw21_takes_O Kv) 0 = none := by kernel_rfl
theorem probitylaw21_takes_h (Kv : VW) : ∀ k, holdsAt Try.prog probitylaw21_takes_E 34 (probitylaw21_takes_O Kv) k := fun _ => holdsAt_ge (probitylaw21_takes_n Kv) (Nat.zero_le _)
theorem probitylaw21_takes_ok : Sound Try.prog 17 probitylaw21_takes_S := ⟨Try.call17, fun vs w Kv h => by
  unfold probitylaw21_takes_S at h
  split at h
  · have h := h.out
    rw [probitylaw21_takes_e] at h
    exact calls_sound (Γ := probitylaw21_takes_E) progMixed ⟨.inl combine_Solve_ok, .inl probityref21_Ints_ok, trivial⟩ Try.func17 (code := probitylaw21_takes_C) (by kernel_rfl) (probitylaw21_takes_A Kv) Kv (holds_all (probitylaw21_takes_h Kv)) (Nat.le_of_ble_eq_true (by kernel_rfl)) h
  · exact h.elim⟩
/-! probitylaw21_sanity -/
def probitylaw21_sanity_k1d (one_1 : Bool) (two_2 : Bool)  (K : Bool → World → Prop) (w : World) : Prop :=
  probitylaw21_example_sh (18 : Int) (0 : Int) (1 : Int) (fun (r27_0 : Sl) (r27_1 : Sl) (r27_2 : Sl) (r27_3 : Int) (r27_4 : Int) (w26 : World) => let w28 : World := w26.alloc (Obj.cells #[(vI (0 : Int)), (vI (2 : Int))] 3)
  combine_Paid_sh r27_0 r27_1 r27_2 r27_3 r27_4 (Sl.mk (some (Addr.mk w26.heap.size 0 none)) 2 2) (fun (r30 : Int) (r31 : Bool) (w29 : World) => cnd one_1
    (cnd two_2
    (cnd (r30 == (18 : Int))
    (K r31 w29)
    (K false w29))
    (K false w29))
    (K false w29)) w28) w
structure probitylaw21_sanity_k1 (one_1 : Bool) (two_2 : Bool)  (K : Bool → World → Prop) (w : World) : Prop where
  out : probitylaw21_sanity_k1d one_1 two_2 K w
def probitylaw21_sanity_k0d (one_1 : Bool)  (K : Bool → World → Prop) (w : World) : Prop :=
  probitylaw21_example_sh (19 : Int) (1 : Int) (0 : Int) (fun (r17_0 : Sl) (r17_1 : Sl) (r17_2 : Sl) (r17_3 : Int) (r17_4 : Int) (w16 : World) => let w18 : World := w16.alloc (Obj.cells #[(vI (1 : Int)), (vI (2 : Int))] 3)
  probitylaw21_takes_sh r17_0 r17_1 r17_2 r17_3 r17_4 (Sl.mk (some (Addr.mk w16.heap.size 0 none)) 2 2) (13 : Int) (fun (r20 : Bool) (w19 : World) => cnd r20
    (probitylaw21_example_sh (6 : Int) (0 : Int) (0 : Int) (fun (r22_0 : Sl) (r22_1 : Sl) (r22_2 : Sl) (r22_3 : Int) (r22_4 : Int) (w21 : World) => let w23 : World := w21.alloc (Obj.cells #[(vI (-1 : Int)), (vI (-1 : Int))] 3)
  probitylaw21_takes_sh r22_0 r22_1 r22_2 r22_3 r22_4 (Sl.mk (some (Addr.mk w21.heap.size 0 none)) 2 2) (0 : Int) (fun (r25 : Bool) (w24 : World) => probitylaw21_sanity_k1 one_1 r25 K w24) w23) w19)
    (probitylaw21_sanity_k1 one_1 false K w19)) w18) w
structure probitylaw21_sanity_k0 (one_1 : Bool)  (K : Bool → World → Prop) (w : World) : Prop where
  out : probitylaw21_sanity_k0d one_1 K w
def probitylaw21_sanity_sd  (K : Bool → World → Prop) (w : World) : Prop :=
  probitylaw21_example_sh (19 : Int) (0 : Int) (0 : Int) (fun (r2_0 : Sl) (r2_1 : Sl) (r2_2 : Sl) (r2_3 : Int) (r2_4 : Int) (w1 : World) => let w3 : World := w1.alloc (Obj.cells #[(vI (0 : Int)), (vI (2 : Int))] 3)
  probitylaw21_takes_sh r2_0 r2_1 r2_2 r2_3 r2_4 (Sl.mk (some (Addr.mk w1.heap.size 0 none)) 2 2) (15 : Int) (fun (r5 : Bool) (w4 : World) => cnd r5
    (probitylaw21_example_sh (18 : Int) (0 : Int) (0 : Int) (fun (r7_0 : Sl) (r7_1 : Sl) (r7_2 : Sl) (r7_3 : Int) (r7_4 : Int) (w6 : World) => let w8 : World := w6.alloc (Obj.cells #[(vI (1 : Int)), (vI (2 : Int))] 3)
  probitylaw21_takes_sh r7_0 r7_1 r7_2 r7_3 r7_4 (Sl.mk (some (Addr.mk w6.heap.size 0 none)) 2 2) (13 : Int) (fun (r10 : Bool) (w9 : World) => cnd r10
    (probitylaw21_example_sh (18 : Int) (0 : Int) (1 : Int) (fun (r12_0 : Sl) (r12_1 : Sl) (r12_2 : Sl) (r12_3 : Int) (r12_4 : Int) (w11 : World) => let w13 : World := w11.alloc (Obj.cells #[(vI (0 : Int)), (vI (2 : Int))] 3)
  probitylaw21_takes_sh r12_0 r12_1 r12_2 r12_3 r12_4 (Sl.mk (some (Addr.mk w11.heap.size 0 none)) 2 2) (15 : Int) (fun (r15 : Bool) (w14 : World) => probitylaw21_sanity_k0 r15 K w14) w13) w9)
    (probitylaw21_sanity_k0 false K w9)) w8) w4)
    (probitylaw21_sanity_k0 false K w4)) w3) w
structure probitylaw21_sanity_sh  (K : Bool → World → Prop) (w : World) : Prop where
  out : probitylaw21_sanity_sd  K w
def probitylaw21_sanity_P0 (Kv : VW) (ρ : Rho) (vs : List Value) (w : World) : Prop :=
  match ρ, vs with
  | _, [.bool one_1] => probitylaw21_sanity_k0 one_1  (fun (r0 : Bool) (w' : World) => Kv (Value.bool r0) w') w
  | _, _ => False
def probitylaw21_sanity_P1 (Kv : VW) (ρ : Rho) (vs : List Value) (w : World) : Prop :=
  match ρ, vs with
  | _, [.bool one_1, .bool two_2] => probitylaw21_sanity_k1 one_1 two_2  (fun (r0 : Bool) (w' : World) => Kv (Value.bool r0) w') w
  | _, _ => False
noncomputable def probitylaw21_sanity_S : Pw.Spec := fun vs w Kv =>
  match vs with
  | [] => probitylaw21_sanity_sh  (fun (r0 : Bool) (w' : World) => Kv (Value.bool r0) w') w
  | _ => False
noncomputable def probitylaw21_sanity_E : Pw.Env := [(15, combine_Paid_S), (17, probitylaw21_takes_S), (18, probitylaw21_example_S)]
noncomputable def probitylaw21_sanity_C : Code := (Try.f7.body).getD .skip
noncomputable def probitylaw21_sanity_A (Kv : VW) : Pw.A :=
  (aQ (A.reg (rR RA.done))
   (aQ (A.reg (rR (rR (rR (rR (RA.spl 8 (rR (rR (rR (rR (rR (RA.spl 13 (rR (rR (rR (rR (rR RA.done))))) (rK (rK (rK (rR (rR RA.done))))))))))) (rK (rK (rK (rR (rR (rK (rK (rK (rR (rR RA.done))))))))))))))))
   (A.cut [1] (probitylaw21_sanity_P0 Kv) (aQ (A.reg (rR (rR (rR (rR (RA.spl 21 (rR (rR (rR (rR (rR RA.done))))) (rK (rK (rK (rR (rR RA.done)))))))))))
   (A.cut [1, 2] (probitylaw21_sanity_P1 Kv) (aQ (A.reg (rR (rR (rR (rR (rR (rR (rR (rR RA.done)))))))))
   (aQ (A.reg (rR (rR (RA.spl 33 (rR (rR (rR (RA.spl 36 (rR (rR (rR (rR (RA.spl 40 (rR (rR (rR RA.done))) (rK (rR (rR RA.done)))))))) (rK (rK (rR (rR (rK (rR (rR RA.done))))))))))) (rK (rR (rR (rK (rK (rR (rR (rK (rR (rR RA.done))))))))))))))
   A.leaf)))))))
noncomputable def probitylaw21_sanity_O (Kv : VW) : List Ob := (obs Try.prog probitylaw21_sanity_E 43 (probitylaw21_sanity_A Kv) probitylaw21_sanity_C (fun _ => retQ Try.prog Try.f7.results Kv))
theorem probitylaw21_sanity_e (Kv : VW)  (w : World) : probitylaw21_sanity_sd  (fun (r0 : Bool) (w' : World) => Kv (Value.bool r0) w') w = W Try.prog probitylaw21_sanity_E 43 (probitylaw21_sanity_A Kv) probitylaw21_sanity_C [] (retQ Try.prog Try.f7.results Kv) [] (startS []) w := by kernel_rfl
theorem probitylaw21_sanity_e0 (Kv : VW) (ρ : Rho) (one_1 : Bool) (w : World) : probitylaw21_sanity_k0d one_1  (fun (r0 : Bool) (w' : World) => Kv (Value.bool r0) w') w = goalAt Try.prog probitylaw21_sanity_E 43 (probitylaw21_sanity_O Kv) 0 (ρ) [(Value.bool one_1)] w := by kernel_rfl
theorem probitylaw21_sanity_q0 (Kv : VW) (ρ : Rho) (vs : List Value) (w : World) : labAt (probitylaw21_sanity_O Kv) 0 ρ vs w = probitylaw21_sanity_P0 Kv ρ vs w := by kernel_rfl
theorem probitylaw21_sanity_h0 (Kv : VW) : holdsAt Try.prog probitylaw21_sanity_E 43 (probitylaw21_sanity_O Kv) 0 := holdsAt_cut (.inl (by kernel_rfl)) (fun ρ vs w h => by
  rw [probitylaw21_sanity_q0] at h
  unfold probitylaw21_sanity_P0 at h
  split at h
  · rw [← probitylaw21_sanity_e0]; exact h.out
  · exact h.elim)
theorem probitylaw21_sanity_e1 (Kv : VW) (ρ : Rho) (one_1 : Bool) (two_2 : Bool) (w : World) : probitylaw21_sanity_k1d one_1 two_2  (fun (r0 : Bool) (w' : World) => Kv (Value.bool r0) w') w = goalAt Try.prog probitylaw21_sanity_E 43 (probitylaw21_sanity_O Kv) 1 (ρ) [(Value.bool one_1), (Value.bool two_2)] w := by kernel_rfl
theorem probitylaw21_sanity_q1 (Kv : VW) (ρ : Rho) (vs : List Value) (w : World) : labAt (probitylaw21_sanity_O Kv) 1 ρ vs w = probitylaw21_sanity_P1 Kv ρ vs w := by kernel_rfl
theorem probitylaw21_sanity_h1 (Kv : VW) : holdsAt Try.prog probitylaw21_sanity_E 43 (probitylaw21_sanity_O Kv) 1 := holdsAt_cut (.inl (by kernel_rfl)) (fun ρ vs w h => by
  rw [probitylaw21_sanity_q1] at h
  unfold probitylaw21_sanity_P1 at h
  split at h
  · rw [← probitylaw21_sanity_e1]; exact h.out
  · exact h.elim)
theorem probitylaw21_sanity_n (Kv : VW) : obAt (probitylaw21_sanity_O Kv) 2 = none := by kernel_rfl
theorem probitylaw21_sanity_h (Kv : VW) : ∀ k, holdsAt Try.prog probitylaw21_sanity_E 43 (probitylaw21_sanity_O Kv) k := fun k => match k with
  | 0 => probitylaw21_sanity_h0 Kv
  | 1 => probitylaw21_sanity_h1 Kv
  | _k + 2 => holdsAt_ge (probitylaw21_sanity_n Kv) (Nat.le_add_left _ _)
theorem probitylaw21_sanity_ok : Sound Try.prog 7 probitylaw21_sanity_S := ⟨Try.call7, fun vs w Kv h => by
  unfold probitylaw21_sanity_S at h
  split at h
  · have h := h.out
    rw [probitylaw21_sanity_e] at h
    exact calls_sound (Γ := probitylaw21_sanity_E) progMixed ⟨.inl combine_Paid_ok, .inl probitylaw21_takes_ok, .inl probitylaw21_example_ok, trivial⟩ Try.func7 (code := probitylaw21_sanity_C) (by kernel_rfl) (probitylaw21_sanity_A Kv) Kv (holds_all (probitylaw21_sanity_h Kv)) (Nat.le_of_ble_eq_true (by kernel_rfl)) h
  · exact h.elim⟩
/-! probitylaw21_CombineMore -/
def probitylaw21_CombineMore_k0d (up_5 : Bool) (work_7 : Int) (a_8 : Addr) (e_9 : Int) (q_10 : Addr) (b_11 : Addr) (f_12 : Int)  (K : Bool → World → Prop) (w : World) : Prop :=
  ∃ x49 : Sl, w.cell? q_10 = some (vS x49.p x49.l x49.c) ∧ ∃ x50 : Sl, w.cell? (q_10.add 1) = some (vS x50.p x50.l x50.c) ∧ ∃ x51 : Sl, w.cell? (q_10.add 2) = some (vS x51.p x51.l x51.c) ∧ ∃ x52 : Int, w.cell? (q_10.add 3) = some (vI x52) ∧ ∃ x53 : Int, w.cell? (q_10.add 4) = some (vI x53) ∧ combine_Solve_sh x49 x50 x51 x52 x53 work_7 (fun (r55_0 : Sl) (r55_1 : Int) (r55_2 : Int) (r55_3 : Sl) (r56 : Int) (w54 : World) => let w57 : World := w54.alloc (Obj.cells #[(vS none 0 0), (vI (0 : Int)), (vI (0 : Int)), (vS none 0 0)] 33)
  stN w57 (Addr.mk w54.heap.size 0 none) [(vS r55_0.p r55_0.l r55_0.c), (vI r55_1), (vI r55_2), (vS r55_3.p r55_3.l r55_3.c)] fun (w58 : World) => wrOk w58 (q_10.add 3) ∧ 
  (let w59 : World := w58.setCell (q_10.add 3) (vI (0 : Int))
  ∃ x60 : Sl, w59.cell? q_10 = some (vS x60.p x60.l x60.c) ∧ ∃ x61 : Sl, w59.cell? (q_10.add 1) = some (vS x61.p x61.l x61.c) ∧ ∃ x62 : Sl, w59.cell? (q_10.add 2) = some (vS x62.p x62.l x62.c) ∧ ∃ x63 : Int, w59.cell? (q_10.add 3) = some (vI x63) ∧ ∃ x64 : Int, w59.cell? (q_10.add 4) = some (vI x64) ∧ combine_Solve_sh x60 x61 x62 x63 x64 work_7 (fun (r66_0 : Sl) (r66_1 : Int) (r66_2 : Int) (r66_3 : Sl) (r67 : Int) (w65 : World) => let w68 : World := w65.alloc (Obj.cells #[(vS none 0 0), (vI (0 : Int)), (vI (0 : Int)), (vS none 0 0)] 33)
  stN w68 (Addr.mk w65.heap.size 0 none) [(vS r66_0.p r66_0.l r66_0.c), (vI r66_1), (vI r66_2), (vS r66_3.p r66_3.l r66_3.c)] fun (w69 : World) => cnd up_5
    (cnd (e_9 == (0 : Int))
    (cnd (f_12 == (0 : Int))
    (cnd (r56 == (0 : Int))
    (cnd (r67 == (0 : Int))
    (∃ x70 : Int, w69.cell? (a_8.add 1) = some (vI x70) ∧ ∃ x71 : Int, w69.cell? (b_11.add 1) = some (vI x71) ∧ cnd (decide (x70 ≤ x71))
    (∃ x72 : Int, w69.cell? (b_11.add 1) = some (vI x72) ∧ ∃ x73 : Int, w69.cell? (Addr.mk w54.heap.size 1 none) = some (vI x73) ∧ cnd (decide (x72 ≤ x73))
    (∃ x74 : Int, w69.cell? (Addr.mk w54.heap.size 1 none) = some (vI x74) ∧ ∃ x75 : Int, w69.cell? (Addr.mk w65.heap.size 1 none) = some (vI x75) ∧ K (decide (x74 ≤ x75)) w69)
    (K false w69))
    (K false w69))
    (K false w69))
    (K false w69))
    (K false w69))
    (K false w69))
    (K false w69)) w59)) w
structure probitylaw21_CombineMore_k0 (up_5 : Bool) (work_7 : Int) (a_8 : Addr) (e_9 : Int) (q_10 : Addr) (b_11 : Addr) (f_12 : Int)  (K : Bool → World → Prop) (w : World) : Prop where
  out : probitylaw21_CombineMore_k0d up_5 work_7 a_8 e_9 q_10 b_11 f_12 K w
def probitylaw21_CombineMore_sd (l_0 : Sl) (more_1_0 : Int) (more_1_1 : Int) (K : Bool → World → Prop) (w : World) : Prop :=
  let w1 : World := w.alloc (Obj.cells #[(Value.int .u8 more_1_0), (Value.int .u8 more_1_1)] 23)
  probitylaw21_sanity_sh (fun (r3 : Bool) (w2 : World) => probityref21_Made_sh l_0 (fun (r5_0 : Sl) (r5_1 : Sl) (r5_2 : Sl) (r5_3 : Int) (r5_4 : Int) (w4 : World) => let w6 : World := w4.alloc (Obj.cells #[(vS none 0 0), (vS none 0 0), (vS none 0 0), (vI (0 : Int)), (vI (0 : Int))] 28)
  stN w6 (Addr.mk w4.heap.size 0 none) [(vS r5_0.p r5_0.l r5_0.c), (vS r5_1.p r5_1.l r5_1.c), (vS r5_2.p r5_2.l r5_2.c), (vI r5_3), (vI r5_4)] fun (w7 : World) => ∃ x8 : Sl, w7.cell? (Addr.mk w4.heap.size 0 none) = some (vS x8.p x8.l x8.c) ∧ ∃ x9 : Sl, w7.cell? (Addr.mk w4.heap.size 1 none) = some (vS x9.p x9.l x9.c) ∧ ∃ x10 : Sl, w7.cell? (Addr.mk w4.heap.size 2 none) = some (vS x10.p x10.l x10.c) ∧ ∃ x11 : Int, w7.cell? (Addr.mk w4.heap.size 3 none) = some (vI x11) ∧ ∃ x12 : Int, w7.cell? (Addr.mk w4.heap.size 4 none) = some (vI x12) ∧ probityref21_Prefixes_sh x8 x9 x10 x11 x12 (fun (r14 : Int) (w13 : World) => ∃ x15 : Sl, w13.cell? (Addr.mk w4.heap.size 0 none) = some (vS x15.p x15.l x15.c) ∧ ∃ x16 : Sl, w13.cell? (Addr.mk w4.heap.size 1 none) = some (vS x16.p x16.l x16.c) ∧ ∃ x17 : Sl, w13.cell? (Addr.mk w4.heap.size 2 none) = some (vS x17.p x17.l x17.c) ∧ ∃ x18 : Int, w13.cell? (Addr.mk w4.heap.size 3 none) = some (vI x18) ∧ ∃ x19 : Int, w13.cell? (Addr.mk w4.heap.size 4 none) = some (vI x19) ∧ combine_Solve_sh x15 x16 x17 x18 x19 r14 (fun (r21_0 : Sl) (r21_1 : Int) (r21_2 : Int) (r21_3 : Sl) (r22 : Int) (w20 : World) => let w23 : World := w20.alloc (Obj.cells #[(vS none 0 0), (vI (0 : Int)), (vI (0 : Int)), (vS none 0 0)] 33)
  stN w23 (Addr.mk w20.heap.size 0 none) [(vS r21_0.p r21_0.l r21_0.c), (vI r21_1), (vI r21_2), (vS r21_3.p r21_3.l r21_3.c)] fun (w24 : World) => ∃ x25 : Sl, w24.cell? (Addr.mk w4.heap.size 0 none) = some (vS x25.p x25.l x25.c) ∧ ∃ x26 : Sl, w24.cell? (Addr.mk w4.heap.size 1 none) = some (vS x26.p x26.l x26.c) ∧ ∃ x27 : Sl, w24.cell? (Addr.mk w4.heap.size 2 none) = some (vS x27.p x27.l x27.c) ∧ ∃ x28 : Int, w24.cell? (Addr.mk w4.heap.size 3 none) = some (vI x28) ∧ ∃ x29 : Int, w24.cell? (Addr.mk w4.heap.size 4 none) = some (vI x29) ∧ let w30 : World := w24.alloc (Obj.cells #[(vS none 0 0), (vS none 0 0), (vS none 0 0), (vI (0 : Int)), (vI (0 : Int))] 28)
  stN w30 (Addr.mk w24.heap.size 0 none) [(vS x25.p x25.l x25.c), (vS x26.p x26.l x26.c), (vS x27.p x27.l x27.c), (vI x28), (vI x29)] fun (w31 : World) => ∃ x32 : Int, w31.cell? (Addr.mk w4.heap.size 4 none) = some (vI x32) ∧ (0 ≤ (0 : Int) ∧ (0 : Int) < (2 : Nat)) ∧ ∃ x33 : Int, w31.cell? ((Addr.mk w.heap.size 0 none).add ((0 : Int).toNat * 1)) = some (Value.int .u8 x33) ∧ (20 : Int) ≠ 0 ∧ inR .i64 (Int.tmod x33 (20 : Int)) ∧ inR .i64 (x32 + (Int.tmod x33 (20 : Int))) ∧ wrOk w31 (Addr.mk w24.heap.size 4 none) ∧ 
  (let w34 : World := w31.setCell (Addr.mk w24.heap.size 4 none) (vI (x32 + (Int.tmod x33 (20 : Int))))
  ∃ x35 : Sl, w34.cell? (Addr.mk w24.heap.size 0 none) = some (vS x35.p x35.l x35.c) ∧ ∃ x36 : Sl, w34.cell? (Addr.mk w24.heap.size 1 none) = some (vS x36.p x36.l x36.c) ∧ ∃ x37 : Sl, w34.cell? (Addr.mk w24.heap.size 2 none) = some (vS x37.p x37.l x37.c) ∧ ∃ x38 : Int, w34.cell? (Addr.mk w24.heap.size 3 none) = some (vI x38) ∧ ∃ x39 : Int, w34.cell? (Addr.mk w24.heap.size 4 none) = some (vI x39) ∧ combine_Solve_sh x35 x36 x37 x38 x39 r14 (fun (r41_0 : Sl) (r41_1 : Int) (r41_2 : Int) (r41_3 : Sl) (r42 : Int) (w40 : World) => let w43 : World := w40.alloc (Obj.cells #[(vS none 0 0), (vI (0 : Int)), (vI (0 : Int)), (vS none 0 0)] 33)
  stN w43 (Addr.mk w40.heap.size 0 none) [(vS r41_0.p r41_0.l r41_0.c), (vI r41_1), (vI r41_2), (vS r41_3.p r41_3.l r41_3.c)] fun (w44 : World) => ∃ x45 : Int, w44.cell? (Addr.mk w4.heap.size 3 none) = some (vI x45) ∧ cnd (decide (x45 > (0 : Int)))
    (∃ x46 : Int, w44.cell? (Addr.mk w4.heap.size 3 none) = some (vI x46) ∧ (0 ≤ (1 : Int) ∧ (1 : Int) < (2 : Nat)) ∧ ∃ x47 : Int, w44.cell? ((Addr.mk w.heap.size 0 none).add ((1 : Int).toNat * 1)) = some (Value.int .u8 x47) ∧ (3 : Int) ≠ 0 ∧ inR .i64 (Int.tmod x47 (3 : Int)) ∧ inR .i64 (x46 + (Int.tmod x47 (3 : Int))) ∧ wrOk w44 (Addr.mk w24.heap.size 3 none) ∧ 
  (let w48 : World := w44.setCell (Addr.mk w24.heap.size 3 none) (vI (x46 + (Int.tmod x47 (3 : Int))))
  probitylaw21_CombineMore_k0 r3 r14 (Addr.mk w20.heap.size 0 none) r22 (Addr.mk w24.heap.size 0 none) (Addr.mk w40.heap.size 0 none) r42 K w48))
    (probitylaw21_CombineMore_k0 r3 r14 (Addr.mk w20.heap.size 0 none) r22 (Addr.mk w24.heap.size 0 none) (Addr.mk w40.heap.size 0 none) r42 K w44)) w34)) w13) w7) w2) w1
structure probitylaw21_CombineMore_sh (l_0 : Sl) (more_1_0 : Int) (more_1_1 : Int) (K : Bool → World → Prop) (w : World) : Prop where
  out : probitylaw21_CombineMore_sd l_0 more_1_0 more_1_1 K w
def probitylaw21_CombineMore_P0 (Kv : VW) (ρ : Rho) (vs : List Value) (w : World) : Prop :=
  match ρ, vs with
  | _, [.bool up_5, .int .i64 work_7, .pointer (some a_8), .int .i64 e_9, .pointer (some q_10), .pointer (some b_11), .int .i64 f_12] => probitylaw21_CombineMore_k0 up_5 work_7 a_8 e_9 q_10 b_11 f_12  (fun (r0 : Bool) (w' : World) => Kv (Value.bool r0) w') w
  | _, _ => False
noncomputable def probitylaw21_CombineMore_S : Pw.Spec := fun vs w Kv =>
  match vs with
  | [.slice l_0p l_0l l_0c, .agg ⟨[.int .u8 more_1_0, .int .u8 more_1_1]⟩] => probitylaw21_CombineMore_sh ⟨l_0p, l_0l, l_0c⟩ more_1_0 more_1_1 (fun (r0 : Bool) (w' : World) => Kv (Value.bool r0) w') w
  | _ => False
noncomputable def probitylaw21_CombineMore_E : Pw.Env := [(7, probitylaw21_sanity_S), (8, probityref21_Made_S), (9, probityref21_Prefixes_S), (10, combine_Solve_S)]
noncomputable def probitylaw21_CombineMore_C : Code := (Try.f3.body).getD .skip
noncomputable def probitylaw21_CombineMore_A (Kv : VW) : Pw.A :=
  (aQ (A.reg (rR (rR RA.done)))
   (aQ (A.reg (rR (rR RA.done)))
   (aQ (A.reg (rR (rR (rR (rR RA.done)))))
   (aQ (A.reg (rR (rR (rR RA.done))))
   (aQ (A.reg (rR (rR (rR (rR (rR (rR (rR (rR (rR RA.done))))))))))
   (aQ (A.reg (rR (rR (rR RA.done))))
   (aQ (A.reg (rR (rR (rR (rR (rR (rR (rR (rR (rR RA.done))))))))))
   (aQ (A.reg (rR (rR (rR (rR (rR (rR (rR (rR (rR RA.done))))))))))
   (aQ (aQ (A.reg (rR (rR (rR RA.done))))
   (A.cond (A.reg (rR (rR (rR (rR (rR (rR (rR (rR (rR RA.done))))))))))
   A.leaf))
   (A.cut [5, 7, 8, 9, 10, 11, 12] (probitylaw21_CombineMore_P0 Kv) (aQ (A.reg (rR (rR (rR (rR (rR (rR (rR (rR (rR RA.done))))))))))
   (aQ (A.reg (rR (rR RA.done)))
   (aQ (A.reg (rR (rR (rR (rR (rR (rR (rR (rR (rR RA.done))))))))))
   (aQ (A.reg (rR (rR (RA.spl 68 (rR (rR (rR (rR (RA.spl 72 (rR (rR (rR (rR (RA.spl 76 (rR (rR (rR (rR (RA.spl 80 (rR (rR (rR (rR (RA.spl 84 (rR (rR (rR (rR (rR (rR (rR (RA.spl 91 (rR (rR (rR (rR (rR (rR (rR (RA.spl 98 (rR (rR (rR (rR (rR (rR (rR RA.done))))))) (rK (rK (rK (rK (rK (rR (rR RA.done))))))))))))))) (rK (rK (rK (rK (rK (rR (rR (rK (rK (rK (rK (rK (rR (rR RA.done)))))))))))))))))))))) (rK (rK (rK (rK (rK (rR (rR (rK (rK (rK (rK (rK (rR (rR (rK (rK (rK (rK (rK (rR (rR RA.done)))))))))))))))))))))))))) (rK (rK (rR (rR (rK (rK (rK (rK (rK (rR (rR (rK (rK (rK (rK (rK (rR (rR (rK (rK (rK (rK (rK (rR (rR RA.done)))))))))))))))))))))))))))))) (rK (rK (rR (rR (rK (rK (rR (rR (rK (rK (rK (rK (rK (rR (rR (rK (rK (rK (rK (rK (rR (rR (rK (rK (rK (rK (rK (rR (rR RA.done)))))))))))))))))))))))))))))))))) (rK (rK (rR (rR (rK (rK (rR (rR (rK (rK (rR (rR (rK (rK (rK (rK (rK (rR (rR (rK (rK (rK (rK (rK (rR (rR (rK (rK (rK (rK (rK (rR (rR RA.done)))))))))))))))))))))))))))))))))))))) (rK (rK (rR (rR (rK (rK (rR (rR (rK (rK (rR (rR (rK (rK (rR (rR (rK (rK (rK (rK (rK (rR (rR (rK (rK (rK (rK (rK (rR (rR (rK (rK (rK (rK (rK (rR (rR RA.done)))))))))))))))))))))))))))))))))))))))))
   A.leaf))))))))))))))
noncomputable def probitylaw21_CombineMore_O (Kv : VW) : List Ob := (obs Try.prog probitylaw21_CombineMore_E 105 (probitylaw21_CombineMore_A Kv) probitylaw21_CombineMore_C (fun _ => retQ Try.prog Try.f3.results Kv))
theorem probitylaw21_CombineMore_e (Kv : VW) (l_0p : Option Addr) (l_0l l_0c : Nat) (more_1_0 : Int) (more_1_1 : Int) (w : World) : probitylaw21_CombineMore_sd ⟨l_0p, l_0l, l_0c⟩ more_1_0 more_1_1 (fun (r0 : Bool) (w' : World) => Kv (Value.bool r0) w') w = W Try.prog probitylaw21_CombineMore_E 105 (probitylaw21_CombineMore_A Kv) probitylaw21_CombineMore_C [] (retQ Try.prog Try.f3.results Kv) [] (startS [(vS l_0p l_0l l_0c), (Value.agg #[(Value.int .u8 more_1_0), (Value.int .u8 more_1_1)])]) w := by kernel_rfl
theorem probitylaw21_CombineMore_e0 (Kv : VW) (ρ : Rho) (up_5 : Bool) (work_7 : Int) (a_8 : Addr) (e_9 : Int) (q_10 : Addr) (b_11 : Addr) (f_12 : Int) (w : World) : probitylaw21_CombineMore_k0d up_5 work_7 a_8 e_9 q_10 b_11 f_12  (fun (r0 : Bool) (w' : World) => Kv (Value.bool r0) w') w = goalAt Try.prog probitylaw21_CombineMore_E 105 (probitylaw21_CombineMore_O Kv) 0 (ρ) [(Value.bool up_5), (vI work_7), (vP (some a_8)), (vI e_9), (vP (some q_10)), (vP (some b_11)), (vI f_12)] w := by kernel_rfl
theorem probitylaw21_CombineMore_q0 (Kv : VW) (ρ : Rho) (vs : List Value) (w : World) : labAt (probitylaw21_CombineMore_O Kv) 0 ρ vs w = probitylaw21_CombineMore_P0 Kv ρ vs w := by kernel_rfl
theorem probitylaw21_CombineMore_h0 (Kv : VW) : holdsAt Try.prog probitylaw21_CombineMore_E 105 (probitylaw21_CombineMore_O Kv) 0 := holdsAt_cut (.inl (by kernel_rfl)) (fun ρ vs w h => by
  rw [probitylaw21_CombineMore_q0] at h
  unfold probitylaw21_CombineMore_P0 at h
  split at h
  · rw [← probitylaw21_CombineMore_e0]; exact h.out
  · exact h.elim)
theorem probitylaw21_CombineMore_n (Kv : VW) : obAt (probitylaw21_CombineMore_O Kv) 1 = none := by kernel_rfl
theorem probitylaw21_CombineMore_h (Kv : VW) : ∀ k, holdsAt Try.prog probitylaw21_CombineMore_E 105 (probitylaw21_CombineMore_O Kv) k := fun k => match k with
  | 0 => probitylaw21_CombineMore_h0 Kv
  | _k + 1 => holdsAt_ge (probitylaw21_CombineMore_n Kv) (Nat.le_add_left _ _)
theorem probitylaw21_CombineMore_ok : Sound Try.prog 3 probitylaw21_CombineMore_S := ⟨Try.call3, fun vs w Kv h => by
  unfold probitylaw21_CombineMore_S at h
  split at h
  · have h := h.out
    rw [probitylaw21_CombineMore_e] at h
    exact calls_sound (Γ := probitylaw21_CombineMore_E) progMixed ⟨.inl probitylaw21_sanity_ok, .inl probityref21_Made_ok, .inl probityref21_Prefixes_ok, .inl combine_Solve_ok, trivial⟩ Try.func3 (code := probitylaw21_CombineMore_C) (by kernel_rfl) (probitylaw21_CombineMore_A Kv) Kv (holds_all (probitylaw21_CombineMore_h Kv)) (Nat.le_of_ble_eq_true (by kernel_rfl)) h
  · exact h.elim⟩
end Go.Proofs.Ytmkjcheafdionaa
