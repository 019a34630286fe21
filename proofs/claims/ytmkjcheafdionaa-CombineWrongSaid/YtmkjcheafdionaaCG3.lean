/- The bodies' formulas, by program. -/
import Derived.Test.YtmkjcheafdionaaProg
import Derived.KernelRfl
import Derived.Test.YtmkjcheafdionaaPwX
import Derived.Test.YtmkjcheafdionaaCG0
import Derived.Test.YtmkjcheafdionaaCG1
import Derived.Test.YtmkjcheafdionaaCG2
set_option maxRecDepth 20000
namespace Go.Proofs.Ytmkjcheafdionaa
open Go Pw
/-! Cb_leastOf -/
def Cb_leastOf_k1d (key_1 : Value) (best_4 x_8 : Addr) (k_9 : Int) (t_11 : Sl) (t_12 t_13 : Int) (N0 : Value -> Addr -> Int -> Bool -> Sl -> Int -> Int -> World -> Prop) (_K : Int -> Int -> Int -> Bool -> World -> Prop) (w : World) : Prop :=
  ∃ x14 : Int, w.cell? x_8 = some (Value.int .i64 x14) /\ ∃ x15 : Int, w.cell? (x_8.add 1) = some (Value.int .i64 x15) /\ wrOk w best_4 /\ 
  (let w16 := w.setCell best_4 (Value.int .i64 x14)
  wrOk w16 (best_4.add 1) /\ 
  (let w17 := w16.setCell (best_4.add 1) (Value.int .i64 x15)
  inR .i64 (t_13 + (1 : Int)) /\ N0 key_1 best_4 k_9 true t_11 t_12 (t_13 + (1 : Int)) w17))
structure Cb_leastOf_k1 (key_1 : Value) (best_4 x_8 : Addr) (k_9 : Int) (t_11 : Sl) (t_12 t_13 : Int) (N0 : Value -> Addr -> Int -> Bool -> Sl -> Int -> Int -> World -> Prop) (K : Int -> Int -> Int -> Bool -> World -> Prop) (w : World) : Prop where
  out : Cb_leastOf_k1d key_1 best_4 x_8 k_9 t_11 t_12 t_13 N0 K w
def Cb_leastOf_b0 (key_1 : Value) (best_4 : Addr) (n_5 : Int) (found_6 : Bool) (t_11 : Sl) (t_12 t_13 : Int) (N0 : Value -> Addr -> Int -> Bool -> Sl -> Int -> Int -> World -> Prop) (K : Int -> Int -> Int -> Bool -> World -> Prop) (w : World) : Prop :=
  cnd (decide (t_13 < t_12))
    (nz t_11.p fun a2 => (0 <= t_13 /\ t_13 < (t_11.l : Nat)) /\ ∃ x3 : Int, w.cell? (a2.add (t_13.toNat * 2)) = some (Value.int .i64 x3) /\ ∃ x4 : Int, w.cell? ((a2.add (t_13.toNat * 2)).add 1) = some (Value.int .i64 x4) /\ let w5 := w.alloc (Obj.cells #[(Value.int .i64 0), (Value.int .i64 0)] 82)
  wrOk w5 (Addr.mk w.heap.size 0 none) /\ 
  (let w6 := w5.setCell (Addr.mk w.heap.size 0 none) (Value.int .i64 x3)
  wrOk w6 (Addr.mk w.heap.size 1 none) /\ 
  (let w7 := w6.setCell (Addr.mk w.heap.size 1 none) (Value.int .i64 x4)
  ∃ x8 : Int, w7.cell? (Addr.mk w.heap.size 0 none) = some (Value.int .i64 x8) /\ ∃ x9 : Int, w7.cell? (Addr.mk w.heap.size 1 none) = some (Value.int .i64 x9) /\ CallV Try.prog key_1 [(Value.agg #[(Value.int .i64 x8), (Value.int .i64 x9)])] w7 fun u10 w11 => ∃ x12 : Int, ∃ x13 : Bool, u10 = (Value.tuple #[(Value.int .i64 x12), (Value.bool x13)]) /\ cnd x13
    (cnd (!found_6)
    (Cb_leastOf_k1 key_1 best_4 (Addr.mk w.heap.size 0 none) x12 t_11 t_12 t_13 N0 K w11)
    (cnd (decide (x12 < n_5))
    (Cb_leastOf_k1 key_1 best_4 (Addr.mk w.heap.size 0 none) x12 t_11 t_12 t_13 N0 K w11)
    (inR .i64 (t_13 + (1 : Int)) /\ N0 key_1 best_4 n_5 found_6 t_11 t_12 (t_13 + (1 : Int)) w11)))
    (inR .i64 (t_13 + (1 : Int)) /\ N0 key_1 best_4 n_5 found_6 t_11 t_12 (t_13 + (1 : Int)) w11))))
    (∃ x18 : Int, w.cell? best_4 = some (Value.int .i64 x18) /\ ∃ x19 : Int, w.cell? (best_4.add 1) = some (Value.int .i64 x19) /\ wrOk w best_4 /\ 
  (let w20 := w.setCell best_4 (Value.int .i64 x18)
  wrOk w20 (best_4.add 1) /\ 
  (let w21 := w20.setCell (best_4.add 1) (Value.int .i64 x19)
  ∃ x22 : Int, w21.cell? best_4 = some (Value.int .i64 x22) /\ ∃ x23 : Int, w21.cell? (best_4.add 1) = some (Value.int .i64 x23) /\ K x22 x23 n_5 found_6 w21)))
def Cb_leastOf_l0d (key_1 : Value) (best_4 : Addr) (n_5 : Int) (found_6 : Bool) (t_11 : Sl) (t_12 t_13 : Int) (K : Int -> Int -> Int -> Bool -> World -> Prop) (w : World) : Prop :=
  ∃ (I : Int -> Bool -> Int -> World -> Prop) (μ : Int -> Bool -> Int -> World -> Nat), I n_5 found_6 t_13 w /\ ∀ (n_51 : Int) (found_61 : Bool) (t_131 : Int) (w1 : World), I n_51 found_61 t_131 w1 ->
    Cb_leastOf_b0 key_1 best_4 n_51 found_61 t_11 t_12 t_131 (fun key_1' best_4' n_5' found_6' t_11' t_12' t_13' w' => ((key_1' = key_1 /\ best_4' = best_4 /\ t_11' = t_11 /\ t_12' = t_12 /\ True) /\ I n_5' found_6' t_13' w') /\ μ n_5' found_6' t_13' w' < μ n_51 found_61 t_131 w1) K w1
structure Cb_leastOf_l0 (key_1 : Value) (best_4 : Addr) (n_5 : Int) (found_6 : Bool) (t_11 : Sl) (t_12 t_13 : Int) (K : Int -> Int -> Int -> Bool -> World -> Prop) (w : World) : Prop where
  out : Cb_leastOf_l0d key_1 best_4 n_5 found_6 t_11 t_12 t_13 K w
def Cb_leastOf_sd (l_0 : Sl) (key_1 : Value) (K : Int -> Int -> Int -> Bool -> World -> Prop) (w : World) : Prop :=
  let w1 := w.alloc (Obj.cells #[(Value.int .i64 0), (Value.int .i64 0)] 82)
  Cb_leastOf_l0 key_1 (Addr.mk w.heap.size 0 none) (0 : Int) false l_0 (l_0.l : Int) (0 : Int) K w1
structure Cb_leastOf_sh (l_0 : Sl) (key_1 : Value) (K : Int -> Int -> Int -> Bool -> World -> Prop) (w : World) : Prop where
  out : Cb_leastOf_sd l_0 key_1 K w
def Cb_leastOf_P0 (Kv : VW) (ρ : Rho) (vs : List Value) (w : World) : Prop :=
  match ρ, vs with
  | _, [key_1, .pointer (some best_4), .int .i64 n_5, .bool found_6, .slice t_11p t_11l t_11c, .int .i64 t_12, .int .i64 t_13] => Cb_leastOf_l0 key_1 best_4 n_5 found_6 ⟨t_11p, t_11l, t_11c⟩ t_12 t_13 (fun r0_0 r0_1 r1 r2 w' => Kv (Value.tuple #[(Value.agg #[(Value.int .i64 r0_0), (Value.int .i64 r0_1)]), (Value.int .i64 r1), (Value.bool r2)]) w') w
  | _, _ => False
def Cb_leastOf_P1 (Kv : VW) (ρ : Rho) (vs : List Value) (w : World) : Prop :=
  match ρ, vs with
  | N0 :: _, [key_1, .pointer (some best_4), .pointer (some x_8), .int .i64 k_9, .slice t_11p t_11l t_11c, .int .i64 t_12, .int .i64 t_13] => Cb_leastOf_k1 key_1 best_4 x_8 k_9 ⟨t_11p, t_11l, t_11c⟩ t_12 t_13 (fun key_1' best_4' n_5' found_6' t_11' t_12' t_13' w' => N0 [key_1', (Value.pointer (some best_4')), (Value.int .i64 n_5'), (Value.bool found_6'), (Value.slice t_11'.p t_11'.l t_11'.c), (Value.int .i64 t_12'), (Value.int .i64 t_13')] w') (fun r0_0 r0_1 r1 r2 w' => Kv (Value.tuple #[(Value.agg #[(Value.int .i64 r0_0), (Value.int .i64 r0_1)]), (Value.int .i64 r1), (Value.bool r2)]) w') w
  | _, _ => False
noncomputable def Cb_leastOf_S : Pw.Spec := fun vs w Kv =>
  match vs with
  | [.slice l_0p l_0l l_0c, key_1] => Cb_leastOf_sh ⟨l_0p, l_0l, l_0c⟩ key_1 (fun r0_0 r0_1 r1 r2 w' => Kv (Value.tuple #[(Value.agg #[(Value.int .i64 r0_0), (Value.int .i64 r0_1)]), (Value.int .i64 r1), (Value.bool r2)]) w') w
  | _ => False
noncomputable def Cb_leastOf_E : Pw.Env := []
noncomputable def Cb_leastOf_C : Code := (Try.f64.body).getD .skip
noncomputable def Cb_leastOf_A (Kv : VW) : Pw.A :=
  (A.seq (A.reg (Pw.rn 3 RA.done))
   (A.seq (A.seq (A.reg (Pw.rn 3 RA.done))
   (A.blk (A.loop [1, 4, 5, 6, 11, 12, 13] (Cb_leastOf_P0 Kv) (A.seq (A.reg (RA.run RA.done))
   (A.seq (A.cond A.leaf
   A.leaf)
   (A.seq (A.blk (A.seq (A.reg (Pw.rn 4 RA.done))
   (A.seq (A.reg (Pw.rn 2 (RA.dyn (Value.tuple #[(Value.int .i64 0), (Value.bool false)]) (Pw.rn 5 RA.done))))
   (A.seq (A.reg (Pw.rn 2 (RA.spl 24 (Pw.rn 3 (RA.spl 27 (Pw.sk 3 (Pw.rn 2 RA.done)) (Pw.rn 5 RA.done))) (Pw.sk 7 (RA.run RA.done)))))
   (A.cond (A.cut [1, 4, 8, 9, 11, 12, 13] (Cb_leastOf_P1 Kv) (A.reg (Pw.rn 5 RA.done)))
   A.leaf)))))
   (A.reg (Pw.rn 2 RA.done))))))))
   (A.seq (A.reg (Pw.rn 6 RA.done))
   A.leaf)))
noncomputable def Cb_leastOf_O (Kv : VW) : List Ob := (obs Try.prog Cb_leastOf_E 39 (Cb_leastOf_A Kv) Cb_leastOf_C (fun _ => retQ Try.prog Try.f64.results Kv))
theorem Cb_leastOf_e (Kv : VW) (l_0p : Option Addr) (l_0l l_0c : Nat) (key_1 : Value) (w : World) : Cb_leastOf_sd ⟨l_0p, l_0l, l_0c⟩ key_1 (fun r0_0 r0_1 r1 r2 w' => Kv (Value.tuple #[(Value.agg #[(Value.int .i64 r0_0), (Value.int .i64 r0_1)]), (Value.int .i64 r1), (Value.bool r2)]) w') w = W Try.prog Cb_leastOf_E 39 (Cb_leastOf_A Kv) Cb_leastOf_C [] (retQ Try.prog Try.f64.results Kv) [] (startS [(Value.slice l_0p l_0l l_0c), key_1]) w := by kernel_rfl
theorem Cb_leastOf_e0 (Kv : VW) (N0 : List Value -> World -> Prop) (ρ : Rho) (key_1 : Value) (best_4 : Addr) (n_5 : Int) (found_6 : Bool) (t_11p : Option Addr) (t_11l t_11c : Nat) (t_12 t_13 : Int) (w : World) : Cb_leastOf_b0 key_1 best_4 n_5 found_6 ⟨t_11p, t_11l, t_11c⟩ t_12 t_13 (fun key_1' best_4' n_5' found_6' t_11' t_12' t_13' w' => N0 [key_1', (Value.pointer (some best_4')), (Value.int .i64 n_5'), (Value.bool found_6'), (Value.slice t_11'.p t_11'.l t_11'.c), (Value.int .i64 t_12'), (Value.int .i64 t_13')] w') (fun r0_0 r0_1 r1 r2 w' => Kv (Value.tuple #[(Value.agg #[(Value.int .i64 r0_0), (Value.int .i64 r0_1)]), (Value.int .i64 r1), (Value.bool r2)]) w') w = goalAt Try.prog Cb_leastOf_E 39 (Cb_leastOf_O Kv) 0 (N0 :: ρ) [key_1, (Value.pointer (some best_4)), (Value.int .i64 n_5), (Value.bool found_6), (Value.slice t_11p t_11l t_11c), (Value.int .i64 t_12), (Value.int .i64 t_13)] w := by kernel_rfl
theorem Cb_leastOf_q0 (Kv : VW) (ρ : Rho) (vs : List Value) (w : World) : labAt (Cb_leastOf_O Kv) 0 ρ vs w = Cb_leastOf_P0 Kv ρ vs w := by kernel_rfl
def Cb_leastOf_I0 (key_10 : Value) (best_40 : Addr) (t_110 : Sl) (t_120 : Int) (I : Int -> Bool -> Int -> World -> Prop) (vs : List Value) (w : World) : Prop :=
  match vs with
  | [key_1, .pointer (some best_4), .int .i64 n_5, .bool found_6, .slice t_11p t_11l t_11c, .int .i64 t_12, .int .i64 t_13] => (key_1 = key_10 /\ best_4 = best_40 /\ ⟨t_11p, t_11l, t_11c⟩ = t_110 /\ t_12 = t_120 /\ True) /\ I n_5 found_6 t_13 w
  | _ => False
def Cb_leastOf_M0 (μ : Int -> Bool -> Int -> World -> Nat) (vs : List Value) (w : World) : Nat :=
  match vs with
  | [_key_1, .pointer (some _best_4), .int .i64 n_5, .bool found_6, .slice _t_11p _t_11l _t_11c, .int .i64 _t_12, .int .i64 t_13] => μ n_5 found_6 t_13 w
  | _ => 0
theorem Cb_leastOf_h0 (Kv : VW) : holdsAt Try.prog Cb_leastOf_E 39 (Cb_leastOf_O Kv) 0 := holdsAt_loop (by kernel_rfl) (fun ρ vs w h => by
  rw [Cb_leastOf_q0] at h
  unfold Cb_leastOf_P0 at h
  split at h
  · rename_i ρt key_1 best_4 n_5 found_6 t_11p t_11l t_11c t_12 t_13
    obtain ⟨I, μ, h0, hr⟩ := h.out
    refine ⟨Cb_leastOf_I0 key_1 best_4 ⟨t_11p, t_11l, t_11c⟩ t_12 I, Cb_leastOf_M0 μ, ⟨⟨rfl, rfl, rfl, rfl, trivial⟩, h0⟩, fun vs w hI => ?_⟩
    unfold Cb_leastOf_I0 at hI
    split at hI
    · obtain ⟨⟨h0, h1, h2, h3, _⟩, hI⟩ := hI
      cases h0; cases h1; cases h2; cases h3
      rw [← Cb_leastOf_e0]
      exact hr _ _ _ _ hI
    · exact hI.elim
  · exact h.elim)
theorem Cb_leastOf_e1 (Kv : VW) (N0 : List Value -> World -> Prop) (ρ : Rho) (key_1 : Value) (best_4 x_8 : Addr) (k_9 : Int) (t_11p : Option Addr) (t_11l t_11c : Nat) (t_12 t_13 : Int) (w : World) : Cb_leastOf_k1d key_1 best_4 x_8 k_9 ⟨t_11p, t_11l, t_11c⟩ t_12 t_13 (fun key_1' best_4' n_5' found_6' t_11' t_12' t_13' w' => N0 [key_1', (Value.pointer (some best_4')), (Value.int .i64 n_5'), (Value.bool found_6'), (Value.slice t_11'.p t_11'.l t_11'.c), (Value.int .i64 t_12'), (Value.int .i64 t_13')] w') (fun r0_0 r0_1 r1 r2 w' => Kv (Value.tuple #[(Value.agg #[(Value.int .i64 r0_0), (Value.int .i64 r0_1)]), (Value.int .i64 r1), (Value.bool r2)]) w') w = goalAt Try.prog Cb_leastOf_E 39 (Cb_leastOf_O Kv) 1 (N0 :: ρ) [key_1, (Value.pointer (some best_4)), (Value.pointer (some x_8)), (Value.int .i64 k_9), (Value.slice t_11p t_11l t_11c), (Value.int .i64 t_12), (Value.int .i64 t_13)] w := by kernel_rfl
theorem Cb_leastOf_q1 (Kv : VW) (ρ : Rho) (vs : List Value) (w : World) : labAt (Cb_leastOf_O Kv) 1 ρ vs w = Cb_leastOf_P1 Kv ρ vs w := by kernel_rfl
theorem Cb_leastOf_h1 (Kv : VW) : holdsAt Try.prog Cb_leastOf_E 39 (Cb_leastOf_O Kv) 1 := holdsAt_cut (.inl (by kernel_rfl)) (fun ρ vs w h => by
  rw [Cb_leastOf_q1] at h
  unfold Cb_leastOf_P1 at h
  split at h
  · rw [← Cb_leastOf_e1]; exact h.out
  · exact h.elim)
theorem Cb_leastOf_n (Kv : VW) : obAt (Cb_leastOf_O Kv) 2 = none := by kernel_rfl
theorem Cb_leastOf_h (Kv : VW) : ∀ k, holdsAt Try.prog Cb_leastOf_E 39 (Cb_leastOf_O Kv) k := fun k => match k with
  | 0 => Cb_leastOf_h0 Kv
  | 1 => Cb_leastOf_h1 Kv
  | _k + 2 => holdsAt_ge (Cb_leastOf_n Kv) (Nat.le_add_left _ _)
theorem Cb_leastOf_ok : Sound Try.prog 64 Cb_leastOf_S := ⟨Try.call64, fun vs w Kv h => by
  unfold Cb_leastOf_S at h
  split at h
  · have h := h.out
    rw [Cb_leastOf_e] at h
    exact calls_sound (Γ := Cb_leastOf_E) progMixed trivial Try.func64 (code := Cb_leastOf_C) (by kernel_rfl) (Cb_leastOf_A Kv) Kv (holds_all (Cb_leastOf_h Kv)) (Nat.le_of_ble_eq_true (by kernel_rfl)) h
  · exact h.elim⟩
/-! Cs_hopeless -/
def Cs_hopeless_k0d (t_4 zero_6 : Addr) (K : Int -> Int -> Bool -> World -> Prop) (w : World) : Prop :=
  ∃ x28 : Int, w.cell? zero_6 = some (Value.int .i64 x28) /\ ∃ x29 : Int, w.cell? (zero_6.add 1) = some (Value.int .i64 x29) /\ wrOk w t_4 /\ 
  (let w30 := w.setCell t_4 (Value.int .i64 x28)
  wrOk w30 (t_4.add 1) /\ 
  (let w31 := w30.setCell (t_4.add 1) (Value.int .i64 x29)
  ∃ x32 : Int, w31.cell? t_4 = some (Value.int .i64 x32) /\ ∃ x33 : Int, w31.cell? (t_4.add 1) = some (Value.int .i64 x33) /\ K x32 x33 true w31))
structure Cs_hopeless_k0 (t_4 zero_6 : Addr) (K : Int -> Int -> Bool -> World -> Prop) (w : World) : Prop where
  out : Cs_hopeless_k0d t_4 zero_6 K w
def Cs_hopeless_k2d (t_4 dual_8 : Addr) (K : Int -> Int -> Bool -> World -> Prop) (w : World) : Prop :=
  ∃ x103 : Int, w.cell? dual_8 = some (Value.int .i64 x103) /\ ∃ x104 : Int, w.cell? (dual_8.add 1) = some (Value.int .i64 x104) /\ wrOk w t_4 /\ 
  (let w105 := w.setCell t_4 (Value.int .i64 x103)
  wrOk w105 (t_4.add 1) /\ 
  (let w106 := w105.setCell (t_4.add 1) (Value.int .i64 x104)
  ∃ x107 : Int, w106.cell? t_4 = some (Value.int .i64 x107) /\ ∃ x108 : Int, w106.cell? (t_4.add 1) = some (Value.int .i64 x108) /\ K x107 x108 true w106))
structure Cs_hopeless_k2 (t_4 dual_8 : Addr) (K : Int -> Int -> Bool -> World -> Prop) (w : World) : Prop where
  out : Cs_hopeless_k2d t_4 dual_8 K w
def Cs_hopeless_k3d (t_4 zero_6 : Addr) (K : Int -> Int -> Bool -> World -> Prop) (w : World) : Prop :=
  ∃ x109 : Int, w.cell? zero_6 = some (Value.int .i64 x109) /\ ∃ x110 : Int, w.cell? (zero_6.add 1) = some (Value.int .i64 x110) /\ wrOk w t_4 /\ 
  (let w111 := w.setCell t_4 (Value.int .i64 x109)
  wrOk w111 (t_4.add 1) /\ 
  (let w112 := w111.setCell (t_4.add 1) (Value.int .i64 x110)
  ∃ x113 : Int, w112.cell? t_4 = some (Value.int .i64 x113) /\ ∃ x114 : Int, w112.cell? (t_4.add 1) = some (Value.int .i64 x114) /\ K x113 x114 false w112))
structure Cs_hopeless_k3 (t_4 zero_6 : Addr) (K : Int -> Int -> Bool -> World -> Prop) (w : World) : Prop where
  out : Cs_hopeless_k3d t_4 zero_6 K w
def Cs_hopeless_k1d (s_0 : Option Addr) (f_3 t_4 : Addr) (zero_6 best_7 dual_8 : Addr) (n_9 : Int) (ok_10 : Bool) (K : Int -> Int -> Bool -> World -> Prop) (w : World) : Prop :=
  ∃ x85 : Sl, w.cell? best_7 = some (Value.slice x85.p x85.l x85.c) /\ ∃ x86 : Sl, w.cell? (best_7.add 1) = some (Value.slice x86.p x86.l x86.c) /\ ∃ x87 : Sl, w.cell? (best_7.add 2) = some (Value.slice x87.p x87.l x87.c) /\ ∃ x88 : Int, w.cell? (best_7.add 3) = some (Value.int .i64 x88) /\ ∃ x89 : Int, w.cell? (best_7.add 4) = some (Value.int .i64 x89) /\ ∃ x90 : Sl, w.cell? (best_7.add 5) = some (Value.slice x90.p x90.l x90.c) /\ Cp_worth_sh x85 x86 x87 x88 x89 x90 (fun r92 w91 => cmp_Compare_sh n_9 r92 (fun r94 w93 => let w95 := w93.drew
  ∃ S96 : World -> Prop, S96 w95 /\ cnd ok_10
    (cnd (decide (r94 < (0 : Int)))
    (Cs_hopeless_k2 t_4 dual_8 K w95)
    (cnd (r94 == (0 : Int))
    (∃ x97 : Sl, (∀ w' : World, S96 w' -> w'.cell? (f_3.add 5) = some (Value.slice x97.p x97.l x97.c)) /\ nz s_0 fun a98 => ∃ x99 : Sl, (∀ w' : World, S96 w' -> w'.cell? a98 = some (Value.slice x99.p x99.l x99.c)) /\ ∃ x100 : Sl, (∀ w' : World, S96 w' -> w'.cell? (f_3.add 5) = some (Value.slice x100.p x100.l x100.c)) /\ (0 <= (0 : Int) /\ (0 : Int) <= (x100.l : Int) /\ (x100.l : Int) <= (x99.c : Nat)) /\ slices_Compare_sh x97 (Sl.mk (subP x99.p 0 x99.c 1) ((x100.l : Int).toNat - 0) (x99.c - 0)) (fun r102 w101 => S96 w101 /\ cnd (decide (r102 > (0 : Int)))
    (Cs_hopeless_k2 t_4 dual_8 K w101)
    (Cs_hopeless_k3 t_4 zero_6 K w101)) w95)
    (Cs_hopeless_k3 t_4 zero_6 K w95)))
    (Cs_hopeless_k3 t_4 zero_6 K w95)) w91) w
structure Cs_hopeless_k1 (s_0 : Option Addr) (f_3 t_4 : Addr) (zero_6 best_7 dual_8 : Addr) (n_9 : Int) (ok_10 : Bool) (K : Int -> Int -> Bool -> World -> Prop) (w : World) : Prop where
  out : Cs_hopeless_k1d s_0 f_3 t_4 zero_6 best_7 dual_8 n_9 ok_10 K w
def Cs_hopeless_sd (s_0 : Option Addr) (f_1_0 f_1_1 f_1_2 : Sl) (f_1_3 f_1_4 : Int) (f_1_5 : Sl) (K : Int -> Int -> Bool -> World -> Prop) (w : World) : Prop :=
  let w1 := w.alloc (Obj.cells #[(Value.slice f_1_0.p f_1_0.l f_1_0.c), (Value.slice f_1_1.p f_1_1.l f_1_1.c), (Value.slice f_1_2.p f_1_2.l f_1_2.c), (Value.int .i64 f_1_3), (Value.int .i64 f_1_4), (Value.slice f_1_5.p f_1_5.l f_1_5.c)] 65)
  let w2 := w1.alloc (Obj.cells #[(Value.int .i64 0), (Value.int .i64 0)] 82)
  ratio_Of_sh (0 : Int) (fun r4_0 r4_1 w3 => let w5 := w3.alloc (Obj.cells #[(Value.int .i64 0), (Value.int .i64 0)] 82)
  wrOk w5 (Addr.mk w3.heap.size 0 none) /\ 
  (let w6 := w5.setCell (Addr.mk w3.heap.size 0 none) (Value.int .i64 r4_0)
  wrOk w6 (Addr.mk w3.heap.size 1 none) /\ 
  (let w7 := w6.setCell (Addr.mk w3.heap.size 1 none) (Value.int .i64 r4_1)
  let w8 := w7.drew
  ∃ S9 : World -> Prop, S9 w8 /\ ∃ x10 : Sl, (∀ w' : World, S9 w' -> w'.cell? (Addr.mk w.heap.size 0 none) = some (Value.slice x10.p x10.l x10.c)) /\ ∃ x11 : Sl, (∀ w' : World, S9 w' -> w'.cell? (Addr.mk w.heap.size 1 none) = some (Value.slice x11.p x11.l x11.c)) /\ ∃ x12 : Sl, (∀ w' : World, S9 w' -> w'.cell? (Addr.mk w.heap.size 2 none) = some (Value.slice x12.p x12.l x12.c)) /\ ∃ x13 : Int, (∀ w' : World, S9 w' -> w'.cell? (Addr.mk w.heap.size 3 none) = some (Value.int .i64 x13)) /\ ∃ x14 : Int, (∀ w' : World, S9 w' -> w'.cell? (Addr.mk w.heap.size 4 none) = some (Value.int .i64 x14)) /\ ∃ x15 : Sl, (∀ w' : World, S9 w' -> w'.cell? (Addr.mk w.heap.size 5 none) = some (Value.slice x15.p x15.l x15.c)) /\ Cp_crowded_sh x10 x11 x12 x13 x14 x15 (fun r17 w16 => S9 w16 /\ cnd r17
    (Cs_hopeless_k0 (Addr.mk w1.heap.size 0 none) (Addr.mk w3.heap.size 0 none) K w16)
    (∃ x18 : Sl, (∀ w' : World, S9 w' -> w'.cell? (Addr.mk w.heap.size 0 none) = some (Value.slice x18.p x18.l x18.c)) /\ ∃ x19 : Sl, (∀ w' : World, S9 w' -> w'.cell? (Addr.mk w.heap.size 1 none) = some (Value.slice x19.p x19.l x19.c)) /\ ∃ x20 : Sl, (∀ w' : World, S9 w' -> w'.cell? (Addr.mk w.heap.size 2 none) = some (Value.slice x20.p x20.l x20.c)) /\ ∃ x21 : Int, (∀ w' : World, S9 w' -> w'.cell? (Addr.mk w.heap.size 3 none) = some (Value.int .i64 x21)) /\ ∃ x22 : Int, (∀ w' : World, S9 w' -> w'.cell? (Addr.mk w.heap.size 4 none) = some (Value.int .i64 x22)) /\ ∃ x23 : Sl, (∀ w' : World, S9 w' -> w'.cell? (Addr.mk w.heap.size 5 none) = some (Value.slice x23.p x23.l x23.c)) /\ nz s_0 fun a24 => ∃ x25 : Int, (∀ w' : World, S9 w' -> w'.cell? (a24.add 8) = some (Value.int .i64 x25)) /\ Cp_least_sh x18 x19 x20 x21 x22 x23 (fun r27 w26 => S9 w26 /\ cnd (decide (r27 > x25))
    (Cs_hopeless_k0 (Addr.mk w1.heap.size 0 none) (Addr.mk w3.heap.size 0 none) K w26)
    (let w34 := w26.drew
  ∃ S35 : World -> Prop, S35 w34 /\ nz s_0 fun a36 => ∃ x37 : Sl, (∀ w' : World, S35 w' -> w'.cell? (a36.add 4) = some (Value.slice x37.p x37.l x37.c)) /\ ∃ x38 : Sl, (∀ w' : World, S35 w' -> w'.cell? (a36.add 5) = some (Value.slice x38.p x38.l x38.c)) /\ ∃ x39 : Sl, (∀ w' : World, S35 w' -> w'.cell? (a36.add 6) = some (Value.slice x39.p x39.l x39.c)) /\ ∃ x40 : Int, (∀ w' : World, S35 w' -> w'.cell? (a36.add 7) = some (Value.int .i64 x40)) /\ ∃ x41 : Int, (∀ w' : World, S35 w' -> w'.cell? (a36.add 8) = some (Value.int .i64 x41)) /\ nz s_0 fun a42 => ∃ x43 : Sl, (∀ w' : World, S35 w' -> w'.cell? a42 = some (Value.slice x43.p x43.l x43.c)) /\ let w44 := w34.alloc (Obj.cells #[(Value.slice none 0 0), (Value.slice none 0 0), (Value.slice none 0 0), (Value.int .i64 0), (Value.int .i64 0), (Value.slice none 0 0)] 65)
  S35 w44 /\ stN w44 (Addr.mk w34.heap.size 0 none) [(Value.slice x37.p x37.l x37.c), (Value.slice x38.p x38.l x38.c), (Value.slice x39.p x39.l x39.c), (Value.int .i64 x40), (Value.int .i64 x41), (Value.slice x43.p x43.l x43.c)] fun w45 => let w46 := w45.drew
  ∃ S47 : World -> Prop, S47 w46 /\ ∃ x48 : Sl, (∀ w' : World, S47 w' -> w'.cell? (Addr.mk w.heap.size 0 none) = some (Value.slice x48.p x48.l x48.c)) /\ ∃ x49 : Sl, (∀ w' : World, S47 w' -> w'.cell? (Addr.mk w.heap.size 1 none) = some (Value.slice x49.p x49.l x49.c)) /\ ∃ x50 : Sl, (∀ w' : World, S47 w' -> w'.cell? (Addr.mk w.heap.size 2 none) = some (Value.slice x50.p x50.l x50.c)) /\ ∃ x51 : Int, (∀ w' : World, S47 w' -> w'.cell? (Addr.mk w.heap.size 3 none) = some (Value.int .i64 x51)) /\ ∃ x52 : Int, (∀ w' : World, S47 w' -> w'.cell? (Addr.mk w.heap.size 4 none) = some (Value.int .i64 x52)) /\ ∃ x53 : Sl, (∀ w' : World, S47 w' -> w'.cell? (Addr.mk w.heap.size 5 none) = some (Value.slice x53.p x53.l x53.c)) /\ ∃ x54 : Sl, (∀ w' : World, S47 w' -> w'.cell? (Addr.mk w.heap.size 0 none) = some (Value.slice x54.p x54.l x54.c)) /\ ∃ x55 : Sl, (∀ w' : World, S47 w' -> w'.cell? (Addr.mk w.heap.size 1 none) = some (Value.slice x55.p x55.l x55.c)) /\ ∃ x56 : Sl, (∀ w' : World, S47 w' -> w'.cell? (Addr.mk w.heap.size 2 none) = some (Value.slice x56.p x56.l x56.c)) /\ ∃ x57 : Int, (∀ w' : World, S47 w' -> w'.cell? (Addr.mk w.heap.size 3 none) = some (Value.int .i64 x57)) /\ ∃ x58 : Int, (∀ w' : World, S47 w' -> w'.cell? (Addr.mk w.heap.size 4 none) = some (Value.int .i64 x58)) /\ ∃ x59 : Sl, (∀ w' : World, S47 w' -> w'.cell? (Addr.mk w.heap.size 5 none) = some (Value.slice x59.p x59.l x59.c)) /\ (Cp_duals_sh x48 x49 x50 x51 x52 x53 (fun r61 w60 => S47 w60 /\ (Cb_leastOf_sh r61 (Value.func (.func 66) #[(Value.agg #[(Value.slice x54.p x54.l x54.c), (Value.slice x55.p x55.l x55.c), (Value.slice x56.p x56.l x56.c), (Value.int .i64 x57), (Value.int .i64 x58), (Value.slice x59.p x59.l x59.c)])] #[]) (fun r63_0 r63_1 r64 r65 w62 => S47 w62 /\ let w66 := w62.alloc (Obj.cells #[(Value.int .i64 0), (Value.int .i64 0)] 82)
  S47 w66 /\ wrOk w66 (Addr.mk w62.heap.size 0 none) /\ 
  (let w67 := w66.setCell (Addr.mk w62.heap.size 0 none) (Value.int .i64 r63_0)
  wrOk w67 (Addr.mk w62.heap.size 1 none) /\ 
  (let w68 := w67.setCell (Addr.mk w62.heap.size 1 none) (Value.int .i64 r63_1)
  Cs_hopeless_k1 s_0 (Addr.mk w.heap.size 0 none) (Addr.mk w1.heap.size 0 none) (Addr.mk w3.heap.size 0 none) (Addr.mk w34.heap.size 0 none) (Addr.mk w62.heap.size 0 none) r64 r65 K w68))) w60)
    /\ (let w69 := w60.alloc (Obj.cells #[(Value.int .i64 0), (Value.int .i64 0)] 82)
  S47 w69 /\ Cb_leastOf_sh r61 (Value.func (.func 66) #[(Value.agg #[(Value.slice x54.p x54.l x54.c), (Value.slice x55.p x55.l x55.c), (Value.slice x56.p x56.l x56.c), (Value.int .i64 x57), (Value.int .i64 x58), (Value.slice x59.p x59.l x59.c)])] #[]) (fun r71_0 r71_1 r72 r73 w70 => S47 w70 /\ wrOk w70 (Addr.mk w60.heap.size 0 none) /\ 
  (let w74 := w70.setCell (Addr.mk w60.heap.size 0 none) (Value.int .i64 r71_0)
  wrOk w74 (Addr.mk w60.heap.size 1 none) /\ 
  (let w75 := w74.setCell (Addr.mk w60.heap.size 1 none) (Value.int .i64 r71_1)
  Cs_hopeless_k1 s_0 (Addr.mk w.heap.size 0 none) (Addr.mk w1.heap.size 0 none) (Addr.mk w3.heap.size 0 none) (Addr.mk w34.heap.size 0 none) (Addr.mk w60.heap.size 0 none) r72 r73 K w75))) w69)) w46)
    /\ (let w76 := w46.alloc (Obj.cells #[(Value.int .i64 0), (Value.int .i64 0)] 82)
  S47 w76 /\ Cp_duals_sh x48 x49 x50 x51 x52 x53 (fun r78 w77 => S47 w77 /\ Cb_leastOf_sh r78 (Value.func (.func 66) #[(Value.agg #[(Value.slice x54.p x54.l x54.c), (Value.slice x55.p x55.l x55.c), (Value.slice x56.p x56.l x56.c), (Value.int .i64 x57), (Value.int .i64 x58), (Value.slice x59.p x59.l x59.c)])] #[]) (fun r80_0 r80_1 r81 r82 w79 => S47 w79 /\ wrOk w79 (Addr.mk w46.heap.size 0 none) /\ 
  (let w83 := w79.setCell (Addr.mk w46.heap.size 0 none) (Value.int .i64 r80_0)
  wrOk w83 (Addr.mk w46.heap.size 1 none) /\ 
  (let w84 := w83.setCell (Addr.mk w46.heap.size 1 none) (Value.int .i64 r80_1)
  Cs_hopeless_k1 s_0 (Addr.mk w.heap.size 0 none) (Addr.mk w1.heap.size 0 none) (Addr.mk w3.heap.size 0 none) (Addr.mk w34.heap.size 0 none) (Addr.mk w46.heap.size 0 none) r81 r82 K w84))) w77) w76))) w16)) w8))) w2
structure Cs_hopeless_sh (s_0 : Option Addr) (f_1_0 f_1_1 f_1_2 : Sl) (f_1_3 f_1_4 : Int) (f_1_5 : Sl) (K : Int -> Int -> Bool -> World -> Prop) (w : World) : Prop where
  out : Cs_hopeless_sd s_0 f_1_0 f_1_1 f_1_2 f_1_3 f_1_4 f_1_5 K w
def Cs_hopeless_P0 (Kv : VW) (ρ : Rho) (vs : List Value) (w : World) : Prop :=
  match ρ, vs with
  | _, [.pointer (some t_4), .pointer (some zero_6)] => Cs_hopeless_k0 t_4 zero_6 (fun r0_0 r0_1 r1 w' => Kv (Value.tuple #[(Value.agg #[(Value.int .i64 r0_0), (Value.int .i64 r0_1)]), (Value.bool r1)]) w') w
  | _, _ => False
def Cs_hopeless_P1 (Kv : VW) (ρ : Rho) (vs : List Value) (w : World) : Prop :=
  match ρ, vs with
  | _, [.pointer s_0, .pointer (some f_3), .pointer (some t_4), .pointer (some zero_6), .pointer (some best_7), .pointer (some dual_8), .int .i64 n_9, .bool ok_10] => Cs_hopeless_k1 s_0 f_3 t_4 zero_6 best_7 dual_8 n_9 ok_10 (fun r0_0 r0_1 r1 w' => Kv (Value.tuple #[(Value.agg #[(Value.int .i64 r0_0), (Value.int .i64 r0_1)]), (Value.bool r1)]) w') w
  | _, _ => False
def Cs_hopeless_P2 (Kv : VW) (ρ : Rho) (vs : List Value) (w : World) : Prop :=
  match ρ, vs with
  | _, [.pointer (some t_4), .pointer (some dual_8)] => Cs_hopeless_k2 t_4 dual_8 (fun r0_0 r0_1 r1 w' => Kv (Value.tuple #[(Value.agg #[(Value.int .i64 r0_0), (Value.int .i64 r0_1)]), (Value.bool r1)]) w') w
  | _, _ => False
def Cs_hopeless_P3 (Kv : VW) (ρ : Rho) (vs : List Value) (w : World) : Prop :=
  match ρ, vs with
  | _, [.pointer (some t_4), .pointer (some zero_6)] => Cs_hopeless_k3 t_4 zero_6 (fun r0_0 r0_1 r1 w' => Kv (Value.tuple #[(Value.agg #[(Value.int .i64 r0_0), (Value.int .i64 r0_1)]), (Value.bool r1)]) w') w
  | _, _ => False
noncomputable def Cs_hopeless_S : Pw.Spec := fun vs w Kv =>
  match vs with
  | [.pointer s_0, .agg ⟨[.slice f_1_0p f_1_0l f_1_0c, .slice f_1_1p f_1_1l f_1_1c, .slice f_1_2p f_1_2l f_1_2c, .int .i64 f_1_3, .int .i64 f_1_4, .slice f_1_5p f_1_5l f_1_5c]⟩] => Cs_hopeless_sh s_0 ⟨f_1_0p, f_1_0l, f_1_0c⟩ ⟨f_1_1p, f_1_1l, f_1_1c⟩ ⟨f_1_2p, f_1_2l, f_1_2c⟩ f_1_3 f_1_4 ⟨f_1_5p, f_1_5l, f_1_5c⟩ (fun r0_0 r0_1 r1 w' => Kv (Value.tuple #[(Value.agg #[(Value.int .i64 r0_0), (Value.int .i64 r0_1)]), (Value.bool r1)]) w') w
  | _ => False
noncomputable def Cs_hopeless_E : Pw.Env := [(32, Cp_least_S), (44, ratio_Of_S), (49, Cp_crowded_S), (51, cmp_Compare_S), (52, Cp_worth_S), (53, slices_Compare_S), (64, Cb_leastOf_S), (65, Cp_duals_S)]
noncomputable def Cs_hopeless_C : Code := (Try.f45.body).getD .skip
noncomputable def Cs_hopeless_A (Kv : VW) : Pw.A :=
  (A.seq (A.reg (Pw.rn 3 RA.done))
   (A.seq (A.reg (Pw.rn 3 RA.done))
   (A.seq (A.seq (A.drw (DA.pur 0 (DA.eff 1 (DA.pur 2 (DA.spl 15 (DA.skp 3 (DA.skp 5 (DA.skp 6 (DA.skp 7 (DA.skp 8 (DA.skp 9 (DA.skp 4 (DA.skp 10 (DA.pur 11 DA.done))))))))) (DA.pur 3 (DA.pur 5 (DA.pur 6 (DA.pur 7 (DA.pur 8 (DA.pur 9 (DA.eff 4 (DA.pur 10 (DA.pur 11 DA.done))))))))))))))
   (A.cond (A.cut [4, 6] (Cs_hopeless_P0 Kv) (A.seq (A.reg (Pw.rn 3 RA.done))
   A.leaf))
   A.leaf))
   (A.seq (A.drw (DA.pur 0 (DA.pur 1 (DA.pur 2 (DA.pur 3 (DA.pur 4 (DA.pur 5 (DA.pur 6 (DA.pur 7 (DA.pur 8 (DA.pur 9 (DA.eff 10 (DA.eff 11 DA.done)))))))))))))
   (A.seq (A.drw (DA.pur 0 (DA.pur 2 (DA.pur 3 (DA.two 1 (DA.two 4 (DA.pur 5 (DA.pur 6 (DA.pur 7 (DA.pur 8 (DA.eff 9 (DA.eff 10 (DA.pur 11 (DA.pur 12 DA.done)))))))) 9 (DA.eff 4 (DA.pur 5 (DA.pur 6 (DA.pur 7 (DA.pur 8 (DA.eff 10 (DA.pur 11 (DA.pur 12 DA.done))))))))) 9 (DA.eff 1 (DA.eff 4 (DA.pur 5 (DA.pur 6 (DA.pur 7 (DA.pur 8 (DA.eff 10 (DA.pur 11 (DA.pur 12 DA.done))))))))))))))
   (A.cut [0, 3, 4, 6, 7, 8, 9, 10] (Cs_hopeless_P1 Kv) (A.seq (A.seq (A.reg (Pw.rn 5 RA.done))
   (A.seq (A.drw (DA.pur 0 (DA.pur 1 (DA.spl 50 (DA.pur 2 (DA.pur 3 (DA.pur 4 (DA.spl 53 (DA.skp 5 (DA.skp 6 (DA.skp 7 (DA.skp 8 (DA.skp 9 (DA.skp 10 (DA.skp 11 (DA.skp 12 (DA.skp 13 (DA.skp 14 (DA.skp 15 (DA.skp 16 (DA.skp 17 (DA.skp 18 (DA.skp 19 (DA.skp 20 (DA.skp 21 (DA.pur 22 (DA.pur 23 DA.done))))))))))))))))))) (DA.pur 5 (DA.pur 6 (DA.pur 7 (DA.spl 56 (DA.pur 8 (DA.pur 9 (DA.pur 10 (DA.pur 11 (DA.pur 12 (DA.pur 13 (DA.pur 14 (DA.pur 15 (DA.pur 16 (DA.pur 17 (DA.pur 18 (DA.eff 19 (DA.pur 20 (DA.pur 21 (DA.pur 22 (DA.pur 23 DA.done)))))))))))))))) (DA.skp 8 (DA.skp 9 (DA.skp 10 (DA.skp 11 (DA.skp 12 (DA.skp 13 (DA.skp 14 (DA.skp 15 (DA.skp 16 (DA.skp 17 (DA.skp 18 (DA.skp 19 (DA.skp 20 (DA.pur 21 (DA.pur 22 (DA.pur 23 DA.done)))))))))))))))))))))))) (DA.skp 2 (DA.skp 3 (DA.skp 4 (DA.skp 5 (DA.skp 6 (DA.skp 7 (DA.skp 8 (DA.skp 9 (DA.skp 10 (DA.skp 11 (DA.skp 12 (DA.skp 13 (DA.skp 14 (DA.skp 15 (DA.skp 16 (DA.skp 17 (DA.skp 18 (DA.skp 19 (DA.skp 20 (DA.skp 21 (DA.skp 22 (DA.pur 23 DA.done))))))))))))))))))))))))))
   (A.cond (A.cut [4, 8] (Cs_hopeless_P2 Kv) (A.seq (A.reg (Pw.rn 3 RA.done))
   A.leaf))
   A.leaf)))
   (A.cut [4, 6] (Cs_hopeless_P3 Kv) (A.seq (A.reg (Pw.rn 3 RA.done))
   A.leaf)))))))))
noncomputable def Cs_hopeless_O (Kv : VW) : List Ob := (obs Try.prog Cs_hopeless_E 75 (Cs_hopeless_A Kv) Cs_hopeless_C (fun _ => retQ Try.prog Try.f45.results Kv))
theorem Cs_hopeless_e (Kv : VW) (s_0 f_1_0p : Option Addr) (f_1_0l f_1_0c : Nat) (f_1_1p : Option Addr) (f_1_1l f_1_1c : Nat) (f_1_2p : Option Addr) (f_1_2l f_1_2c : Nat) (f_1_3 f_1_4 : Int) (f_1_5p : Option Addr) (f_1_5l f_1_5c : Nat) (w : World) : Cs_hopeless_sd s_0 ⟨f_1_0p, f_1_0l, f_1_0c⟩ ⟨f_1_1p, f_1_1l, f_1_1c⟩ ⟨f_1_2p, f_1_2l, f_1_2c⟩ f_1_3 f_1_4 ⟨f_1_5p, f_1_5l, f_1_5c⟩ (fun r0_0 r0_1 r1 w' => Kv (Value.tuple #[(Value.agg #[(Value.int .i64 r0_0), (Value.int .i64 r0_1)]), (Value.bool r1)]) w') w = W Try.prog Cs_hopeless_E 75 (Cs_hopeless_A Kv) Cs_hopeless_C [] (retQ Try.prog Try.f45.results Kv) [] (startS [(Value.pointer s_0), (Value.agg #[(Value.slice f_1_0p f_1_0l f_1_0c), (Value.slice f_1_1p f_1_1l f_1_1c), (Value.slice f_1_2p f_1_2l f_1_2c), (Value.int .i64 f_1_3), (Value.int .i64 f_1_4), (Value.slice f_1_5p f_1_5l f_1_5c)])]) w := by kernel_rfl
theorem Cs_hopeless_e0 (Kv : VW) (ρ : Rho) (t_4 zero_6 : Addr) (w : World) : Cs_hopeless_k0d t_4 zero_6 (fun r0_0 r0_1 r1 w' => Kv (Value.tuple #[(Value.agg #[(Value.int .i64 r0_0), (Value.int .i64 r0_1)]), (Value.bool r1)]) w') w = goalAt Try.prog Cs_hopeless_E 75 (Cs_hopeless_O Kv) 0 (ρ) [(Value.pointer (some t_4)), (Value.pointer (some zero_6))] w := by kernel_rfl
theorem Cs_hopeless_q0 (Kv : VW) (ρ : Rho) (vs : List Value) (w : World) : labAt (Cs_hopeless_O Kv) 0 ρ vs w = Cs_hopeless_P0 Kv ρ vs w := by kernel_rfl
theorem Cs_hopeless_h0 (Kv : VW) : holdsAt Try.prog Cs_hopeless_E 75 (Cs_hopeless_O Kv) 0 := holdsAt_cut (.inl (by kernel_rfl)) (fun ρ vs w h => by
  rw [Cs_hopeless_q0] at h
  unfold Cs_hopeless_P0 at h
  split at h
  · rw [← Cs_hopeless_e0]; exact h.out
  · exact h.elim)
theorem Cs_hopeless_e1 (Kv : VW) (ρ : Rho) (s_0 : Option Addr) (f_3 t_4 : Addr) (zero_6 best_7 dual_8 : Addr) (n_9 : Int) (ok_10 : Bool) (w : World) : Cs_hopeless_k1d s_0 f_3 t_4 zero_6 best_7 dual_8 n_9 ok_10 (fun r0_0 r0_1 r1 w' => Kv (Value.tuple #[(Value.agg #[(Value.int .i64 r0_0), (Value.int .i64 r0_1)]), (Value.bool r1)]) w') w = goalAt Try.prog Cs_hopeless_E 75 (Cs_hopeless_O Kv) 1 (ρ) [(Value.pointer s_0), (Value.pointer (some f_3)), (Value.pointer (some t_4)), (Value.pointer (some zero_6)), (Value.pointer (some best_7)), (Value.pointer (some dual_8)), (Value.int .i64 n_9), (Value.bool ok_10)] w := by kernel_rfl
theorem Cs_hopeless_q1 (Kv : VW) (ρ : Rho) (vs : List Value) (w : World) : labAt (Cs_hopeless_O Kv) 1 ρ vs w = Cs_hopeless_P1 Kv ρ vs w := by kernel_rfl
theorem Cs_hopeless_h1 (Kv : VW) : holdsAt Try.prog Cs_hopeless_E 75 (Cs_hopeless_O Kv) 1 := holdsAt_cut (.inl (by kernel_rfl)) (fun ρ vs w h => by
  rw [Cs_hopeless_q1] at h
  unfold Cs_hopeless_P1 at h
  split at h
  · rw [← Cs_hopeless_e1]; exact h.out
  · exact h.elim)
theorem Cs_hopeless_e2 (Kv : VW) (ρ : Rho) (t_4 dual_8 : Addr) (w : World) : Cs_hopeless_k2d t_4 dual_8 (fun r0_0 r0_1 r1 w' => Kv (Value.tuple #[(Value.agg #[(Value.int .i64 r0_0), (Value.int .i64 r0_1)]), (Value.bool r1)]) w') w = goalAt Try.prog Cs_hopeless_E 75 (Cs_hopeless_O Kv) 2 (ρ) [(Value.pointer (some t_4)), (Value.pointer (some dual_8))] w := by kernel_rfl
theorem Cs_hopeless_q2 (Kv : VW) (ρ : Rho) (vs : List Value) (w : World) : labAt (Cs_hopeless_O Kv) 2 ρ vs w = Cs_hopeless_P2 Kv ρ vs w := by kernel_rfl
theorem Cs_hopeless_h2 (Kv : VW) : holdsAt Try.prog Cs_hopeless_E 75 (Cs_hopeless_O Kv) 2 := holdsAt_cut (.inl (by kernel_rfl)) (fun ρ vs w h => by
  rw [Cs_hopeless_q2] at h
  unfold Cs_hopeless_P2 at h
  split at h
  · rw [← Cs_hopeless_e2]; exact h.out
  · exact h.elim)
theorem Cs_hopeless_e3 (Kv : VW) (ρ : Rho) (t_4 zero_6 : Addr) (w : World) : Cs_hopeless_k3d t_4 zero_6 (fun r0_0 r0_1 r1 w' => Kv (Value.tuple #[(Value.agg #[(Value.int .i64 r0_0), (Value.int .i64 r0_1)]), (Value.bool r1)]) w') w = goalAt Try.prog Cs_hopeless_E 75 (Cs_hopeless_O Kv) 3 (ρ) [(Value.pointer (some t_4)), (Value.pointer (some zero_6))] w := by kernel_rfl
theorem Cs_hopeless_q3 (Kv : VW) (ρ : Rho) (vs : List Value) (w : World) : labAt (Cs_hopeless_O Kv) 3 ρ vs w = Cs_hopeless_P3 Kv ρ vs w := by kernel_rfl
theorem Cs_hopeless_h3 (Kv : VW) : holdsAt Try.prog Cs_hopeless_E 75 (Cs_hopeless_O Kv) 3 := holdsAt_cut (.inl (by kernel_rfl)) (fun ρ vs w h => by
  rw [Cs_hopeless_q3] at h
  unfold Cs_hopeless_P3 at h
  split at h
  · rw [← Cs_hopeless_e3]; exact h.out
  · exact h.elim)
theorem Cs_hopeless_n (Kv : VW) : obAt (Cs_hopeless_O Kv) 4 = none := by kernel_rfl
theorem Cs_hopeless_h (Kv : VW) : ∀ k, holdsAt Try.prog Cs_hopeless_E 75 (Cs_hopeless_O Kv) k := fun k => match k with
  | 0 => Cs_hopeless_h0 Kv
  | 1 => Cs_hopeless_h1 Kv
  | 2 => Cs_hopeless_h2 Kv
  | 3 => Cs_hopeless_h3 Kv
  | _k + 4 => holdsAt_ge (Cs_hopeless_n Kv) (Nat.le_add_left _ _)
theorem Cs_hopeless_ok : Sound Try.prog 45 Cs_hopeless_S := ⟨Try.call45, fun vs w Kv h => by
  unfold Cs_hopeless_S at h
  split at h
  · have h := h.out
    rw [Cs_hopeless_e] at h
    exact calls_sound (Γ := Cs_hopeless_E) progMixed ⟨.inl Cp_least_ok, .inl ratio_Of_ok, .inl Cp_crowded_ok, .inl cmp_Compare_ok, .inl Cp_worth_ok, .inl slices_Compare_ok, .inl Cb_leastOf_ok, .inl Cp_duals_ok, trivial⟩ Try.func45 (code := Cs_hopeless_C) (by kernel_rfl) (Cs_hopeless_A Kv) Kv (holds_all (Cs_hopeless_h Kv)) (Nat.le_of_ble_eq_true (by kernel_rfl)) h
  · exact h.elim⟩
/-! Cs_options -/
def Cs_options_b0 (s_0 : Option Addr) (k_1 : Int) (out_5 t_13 : Sl) (t_14 t_15 : Int) (N0 : Option Addr -> Int -> Sl -> Sl -> Int -> Int -> World -> Prop) (K : Sl -> World -> Prop) (w : World) : Prop :=
  cnd (decide (t_15 < t_14))
    (nz t_13.p fun a4 => (0 <= t_15 /\ t_15 < (t_13.l : Nat)) /\ ∃ x5 : Int, w.cell? (a4.add (t_15.toNat * 4)) = some (Value.int .i64 x5) /\ ∃ x6 : Int, w.cell? ((a4.add (t_15.toNat * 4)).add 1) = some (Value.int .i64 x6) /\ ∃ x7 : Int, w.cell? ((a4.add (t_15.toNat * 4)).add 2) = some (Value.int .i64 x7) /\ ∃ x8 : Int, w.cell? ((a4.add (t_15.toNat * 4)).add 3) = some (Value.int .i64 x8) /\ let w9 := w.alloc (Obj.cells #[(Value.int .i64 0), (Value.int .i64 0), (Value.int .i64 0), (Value.int .i64 0)] 56)
  stN w9 (Addr.mk w.heap.size 0 none) [(Value.int .i64 x5), (Value.int .i64 x6), (Value.int .i64 x7), (Value.int .i64 x8)] fun w10 => let w11 := w10.drew
  ∃ x12 : Int, w11.cell? (Addr.mk w.heap.size 0 none) = some (Value.int .i64 x12) /\ nz s_0 fun a13 => ∃ x14 : Sl, w11.cell? (a13.add 4) = some (Value.slice x14.p x14.l x14.c) /\ nz x14.p fun a15 => (0 <= k_1 /\ k_1 < (x14.l : Nat)) /\ ∃ x16 : Int, w11.cell? (a15.add (k_1.toNat * 1)) = some (Value.int .i64 x16) /\ cnd (x12 == x16)
    (let w17 := w11.alloc (Obj.cells #[(Value.int .i64 t_15)] 3)
  apS 1 8 [(Value.int .i64 0)] 3 out_5 (Sl.mk (some (Addr.mk w11.heap.size 0 none)) 1 1) w17 fun s18 w19 => inR .i64 (t_15 + (1 : Int)) /\ N0 s_0 k_1 s18 t_13 t_14 (t_15 + (1 : Int)) w19)
    (inR .i64 (t_15 + (1 : Int)) /\ N0 s_0 k_1 out_5 t_13 t_14 (t_15 + (1 : Int)) w11))
    (K out_5 w)
def Cs_options_l0d (s_0 : Option Addr) (k_1 : Int) (out_5 t_13 : Sl) (t_14 t_15 : Int) (K : Sl -> World -> Prop) (w : World) : Prop :=
  ∃ (I : Sl -> Int -> World -> Prop) (μ : Sl -> Int -> World -> Nat), I out_5 t_15 w /\ ∀ (out_51 : Sl) (t_151 : Int) (w1 : World), I out_51 t_151 w1 ->
    Cs_options_b0 s_0 k_1 out_51 t_13 t_14 t_151 (fun s_0' k_1' out_5' t_13' t_14' t_15' w' => ((s_0' = s_0 /\ k_1' = k_1 /\ t_13' = t_13 /\ t_14' = t_14 /\ True) /\ I out_5' t_15' w') /\ μ out_5' t_15' w' < μ out_51 t_151 w1) K w1
structure Cs_options_l0 (s_0 : Option Addr) (k_1 : Int) (out_5 t_13 : Sl) (t_14 t_15 : Int) (K : Sl -> World -> Prop) (w : World) : Prop where
  out : Cs_options_l0d s_0 k_1 out_5 t_13 t_14 t_15 K w
def Cs_options_sd (s_0 : Option Addr) (k_1 : Int) (K : Sl -> World -> Prop) (w : World) : Prop :=
  let w1 := w.alloc (Obj.cells #[(Value.int .i64 (-1))] 3)
  nz s_0 fun a2 => ∃ x3 : Sl, w1.cell? (a2.add 5) = some (Value.slice x3.p x3.l x3.c) /\ Cs_options_l0 s_0 k_1 (Sl.mk (some (Addr.mk w.heap.size 0 none)) 1 1) x3 (x3.l : Int) (0 : Int) K w1
structure Cs_options_sh (s_0 : Option Addr) (k_1 : Int) (K : Sl -> World -> Prop) (w : World) : Prop where
  out : Cs_options_sd s_0 k_1 K w
def Cs_options_P0 (Kv : VW) (ρ : Rho) (vs : List Value) (w : World) : Prop :=
  match ρ, vs with
  | _, [.pointer s_0, .int .i64 k_1, .slice out_5p out_5l out_5c, .slice t_13p t_13l t_13c, .int .i64 t_14, .int .i64 t_15] => Cs_options_l0 s_0 k_1 ⟨out_5p, out_5l, out_5c⟩ ⟨t_13p, t_13l, t_13c⟩ t_14 t_15 (fun r0 w' => Kv (Value.slice r0.p r0.l r0.c) w') w
  | _, _ => False
noncomputable def Cs_options_S : Pw.Spec := fun vs w Kv =>
  match vs with
  | [.pointer s_0, .int .i64 k_1] => Cs_options_sh s_0 k_1 (fun r0 w' => Kv (Value.slice r0.p r0.l r0.c) w') w
  | _ => False
noncomputable def Cs_options_E : Pw.Env := []
noncomputable def Cs_options_C : Code := (Try.f25.body).getD .skip
noncomputable def Cs_options_A (Kv : VW) : Pw.A :=
  (A.seq (A.reg (RA.run RA.done))
   (A.seq (A.reg (Pw.rn 2 RA.done))
   (A.seq (A.seq (A.reg (Pw.rn 7 RA.done))
   (A.blk (A.loop [0, 1, 5, 13, 14, 15] (Cs_options_P0 Kv) (A.seq (A.reg (RA.run RA.done))
   (A.seq (A.cond A.leaf
   A.leaf)
   (A.seq (A.blk (A.seq (A.reg (Pw.rn 6 RA.done))
   (A.seq (A.drp (DA.pur 0 (DA.pur 1 (DA.pur 2 (DA.pur 3 (DA.pur 4 (DA.pur 5 (DA.pur 6 (DA.pur 7 (DA.pur 8 (DA.pur 9 (DA.pur 10 DA.done))))))))))))
   (A.cond (A.reg (Pw.rn 5 RA.done))
   A.leaf))))
   (A.reg (Pw.rn 2 RA.done))))))))
   (A.seq (A.reg (Pw.rn 2 RA.done))
   A.leaf))))
noncomputable def Cs_options_O (Kv : VW) : List Ob := (obs Try.prog Cs_options_E 37 (Cs_options_A Kv) Cs_options_C (fun _ => retQ Try.prog Try.f25.results Kv))
theorem Cs_options_e (Kv : VW) (s_0 : Option Addr) (k_1 : Int) (w : World) : Cs_options_sd s_0 k_1 (fun r0 w' => Kv (Value.slice r0.p r0.l r0.c) w') w = W Try.prog Cs_options_E 37 (Cs_options_A Kv) Cs_options_C [] (retQ Try.prog Try.f25.results Kv) [] (startS [(Value.pointer s_0), (Value.int .i64 k_1)]) w := by kernel_rfl
theorem Cs_options_e0 (Kv : VW) (N0 : List Value -> World -> Prop) (ρ : Rho) (s_0 : Option Addr) (k_1 : Int) (out_5p : Option Addr) (out_5l out_5c : Nat) (t_13p : Option Addr) (t_13l t_13c : Nat) (t_14 t_15 : Int) (w : World) : Cs_options_b0 s_0 k_1 ⟨out_5p, out_5l, out_5c⟩ ⟨t_13p, t_13l, t_13c⟩ t_14 t_15 (fun s_0' k_1' out_5' t_13' t_14' t_15' w' => N0 [(Value.pointer s_0'), (Value.int .i64 k_1'), (Value.slice out_5'.p out_5'.l out_5'.c), (Value.slice t_13'.p t_13'.l t_13'.c), (Value.int .i64 t_14'), (Value.int .i64 t_15')] w') (fun r0 w' => Kv (Value.slice r0.p r0.l r0.c) w') w = goalAt Try.prog Cs_options_E 37 (Cs_options_O Kv) 0 (N0 :: ρ) [(Value.pointer s_0), (Value.int .i64 k_1), (Value.slice out_5p out_5l out_5c), (Value.slice t_13p t_13l t_13c), (Value.int .i64 t_14), (Value.int .i64 t_15)] w := by kernel_rfl
theorem Cs_options_q0 (Kv : VW) (ρ : Rho) (vs : List Value) (w : World) : labAt (Cs_options_O Kv) 0 ρ vs w = Cs_options_P0 Kv ρ vs w := by kernel_rfl
def Cs_options_I0 (s_00 : Option Addr) (k_10 : Int) (t_130 : Sl) (t_140 : Int) (I : Sl -> Int -> World -> Prop) (vs : List Value) (w : World) : Prop :=
  match vs with
  | [.pointer s_0, .int .i64 k_1, .slice out_5p out_5l out_5c, .slice t_13p t_13l t_13c, .int .i64 t_14, .int .i64 t_15] => (s_0 = s_00 /\ k_1 = k_10 /\ ⟨t_13p, t_13l, t_13c⟩ = t_130 /\ t_14 = t_140 /\ True) /\ I ⟨out_5p, out_5l, out_5c⟩ t_15 w
  | _ => False
def Cs_options_M0 (μ : Sl -> Int -> World -> Nat) (vs : List Value) (w : World) : Nat :=
  match vs with
  | [.pointer _s_0, .int .i64 _k_1, .slice out_5p out_5l out_5c, .slice _t_13p _t_13l _t_13c, .int .i64 _t_14, .int .i64 t_15] => μ ⟨out_5p, out_5l, out_5c⟩ t_15 w
  | _ => 0
theorem Cs_options_h0 (Kv : VW) : holdsAt Try.prog Cs_options_E 37 (Cs_options_O Kv) 0 := holdsAt_loop (by kernel_rfl) (fun ρ vs w h => by
  rw [Cs_options_q0] at h
  unfold Cs_options_P0 at h
  split at h
  · rename_i ρt s_0 k_1 out_5p out_5l out_5c t_13p t_13l t_13c t_14 t_15
    obtain ⟨I, μ, h0, hr⟩ := h.out
    refine ⟨Cs_options_I0 s_0 k_1 ⟨t_13p, t_13l, t_13c⟩ t_14 I, Cs_options_M0 μ, ⟨⟨rfl, rfl, rfl, rfl, trivial⟩, h0⟩, fun vs w hI => ?_⟩
    unfold Cs_options_I0 at hI
    split at hI
    · obtain ⟨⟨h0, h1, h2, h3, _⟩, hI⟩ := hI
      cases h0; cases h1; cases h2; cases h3
      rw [← Cs_options_e0]
      exact hr _ _ _ hI
    · exact hI.elim
  · exact h.elim)
theorem Cs_options_n (Kv : VW) : obAt (Cs_options_O Kv) 1 = none := by kernel_rfl
theorem Cs_options_h (Kv : VW) : ∀ k, holdsAt Try.prog Cs_options_E 37 (Cs_options_O Kv) k := fun k => match k with
  | 0 => Cs_options_h0 Kv
  | _k + 1 => holdsAt_ge (Cs_options_n Kv) (Nat.le_add_left _ _)
theorem Cs_options_ok : Sound Try.prog 25 Cs_options_S := ⟨Try.call25, fun vs w Kv h => by
  unfold Cs_options_S at h
  split at h
  · have h := h.out
    rw [Cs_options_e] at h
    exact calls_sound (Γ := Cs_options_E) progMixed trivial Try.func25 (code := Cs_options_C) (by kernel_rfl) (Cs_options_A Kv) Kv (holds_all (Cs_options_h Kv)) (Nat.le_of_ble_eq_true (by kernel_rfl)) h
  · exact h.elim⟩
/-! Cb_Paid -/
def Cb_Paid_sd (p_0_0 p_0_1 p_0_2 : Sl) (p_0_3 p_0_4 : Int) (take_1 : Sl) (K : Int -> Bool -> World -> Prop) (w : World) : Prop :=
  let w1 := w.alloc (Obj.cells #[(Value.slice p_0_0.p p_0_0.l p_0_0.c), (Value.slice p_0_1.p p_0_1.l p_0_1.c), (Value.slice p_0_2.p p_0_2.l p_0_2.c), (Value.int .i64 p_0_3), (Value.int .i64 p_0_4)] 28)
  ∃ x2 : Sl, w1.cell? (Addr.mk w.heap.size 0 none) = some (Value.slice x2.p x2.l x2.c) /\ ∃ x3 : Sl, w1.cell? (Addr.mk w.heap.size 1 none) = some (Value.slice x3.p x3.l x3.c) /\ ∃ x4 : Sl, w1.cell? (Addr.mk w.heap.size 2 none) = some (Value.slice x4.p x4.l x4.c) /\ ∃ x5 : Int, w1.cell? (Addr.mk w.heap.size 3 none) = some (Value.int .i64 x5) /\ ∃ x6 : Int, w1.cell? (Addr.mk w.heap.size 4 none) = some (Value.int .i64 x6) /\ let w7 := w1.alloc (Obj.cells #[(Value.slice none 0 0), (Value.slice none 0 0), (Value.slice none 0 0), (Value.int .i64 0), (Value.int .i64 0), (Value.slice none 0 0)] 65)
  stN w7 (Addr.mk w1.heap.size 0 none) [(Value.slice x2.p x2.l x2.c), (Value.slice x3.p x3.l x3.c), (Value.slice x4.p x4.l x4.c), (Value.int .i64 x5), (Value.int .i64 x6), (Value.slice take_1.p take_1.l take_1.c)] fun w8 => ∃ x9 : Sl, w8.cell? (Addr.mk w.heap.size 0 none) = some (Value.slice x9.p x9.l x9.c) /\ ∃ x10 : Sl, w8.cell? (Addr.mk w.heap.size 1 none) = some (Value.slice x10.p x10.l x10.c) /\ ∃ x11 : Sl, w8.cell? (Addr.mk w.heap.size 2 none) = some (Value.slice x11.p x11.l x11.c) /\ ∃ x12 : Int, w8.cell? (Addr.mk w.heap.size 3 none) = some (Value.int .i64 x12) /\ ∃ x13 : Int, w8.cell? (Addr.mk w.heap.size 4 none) = some (Value.int .i64 x13) /\ Cb_right_sh x9 x10 x11 x12 x13 (fun r15 w14 => cnd (!r15)
    (K (0 : Int) false w14)
    (∃ x16 : Sl, w14.cell? (Addr.mk w1.heap.size 0 none) = some (Value.slice x16.p x16.l x16.c) /\ ∃ x17 : Sl, w14.cell? (Addr.mk w1.heap.size 1 none) = some (Value.slice x17.p x17.l x17.c) /\ ∃ x18 : Sl, w14.cell? (Addr.mk w1.heap.size 2 none) = some (Value.slice x18.p x18.l x18.c) /\ ∃ x19 : Int, w14.cell? (Addr.mk w1.heap.size 3 none) = some (Value.int .i64 x19) /\ ∃ x20 : Int, w14.cell? (Addr.mk w1.heap.size 4 none) = some (Value.int .i64 x20) /\ ∃ x21 : Sl, w14.cell? (Addr.mk w1.heap.size 5 none) = some (Value.slice x21.p x21.l x21.c) /\ Cp_fits_sh x16 x17 x18 x19 x20 x21 (fun r23 w22 => cnd (!r23)
    (K (0 : Int) false w22)
    (∃ x24 : Sl, w22.cell? (Addr.mk w1.heap.size 0 none) = some (Value.slice x24.p x24.l x24.c) /\ ∃ x25 : Sl, w22.cell? (Addr.mk w1.heap.size 1 none) = some (Value.slice x25.p x25.l x25.c) /\ ∃ x26 : Sl, w22.cell? (Addr.mk w1.heap.size 2 none) = some (Value.slice x26.p x26.l x26.c) /\ ∃ x27 : Int, w22.cell? (Addr.mk w1.heap.size 3 none) = some (Value.int .i64 x27) /\ ∃ x28 : Int, w22.cell? (Addr.mk w1.heap.size 4 none) = some (Value.int .i64 x28) /\ ∃ x29 : Sl, w22.cell? (Addr.mk w1.heap.size 5 none) = some (Value.slice x29.p x29.l x29.c) /\ Cp_least_sh x24 x25 x26 x27 x28 x29 (fun r31 w30 => K r31 true w30) w22)) w14)) w8
structure Cb_Paid_sh (p_0_0 p_0_1 p_0_2 : Sl) (p_0_3 p_0_4 : Int) (take_1 : Sl) (K : Int -> Bool -> World -> Prop) (w : World) : Prop where
  out : Cb_Paid_sd p_0_0 p_0_1 p_0_2 p_0_3 p_0_4 take_1 K w
noncomputable def Cb_Paid_S : Pw.Spec := fun vs w Kv =>
  match vs with
  | [.agg ⟨[.slice p_0_0p p_0_0l p_0_0c, .slice p_0_1p p_0_1l p_0_1c, .slice p_0_2p p_0_2l p_0_2c, .int .i64 p_0_3, .int .i64 p_0_4]⟩, .slice take_1p take_1l take_1c] => Cb_Paid_sh ⟨p_0_0p, p_0_0l, p_0_0c⟩ ⟨p_0_1p, p_0_1l, p_0_1c⟩ ⟨p_0_2p, p_0_2l, p_0_2c⟩ p_0_3 p_0_4 ⟨take_1p, take_1l, take_1c⟩ (fun r0 r1 w' => Kv (Value.tuple #[(Value.int .i64 r0), (Value.bool r1)]) w') w
  | _ => False
noncomputable def Cb_Paid_E : Pw.Env := [(20, Cb_right_S), (31, Cp_fits_S), (32, Cp_least_S)]
noncomputable def Cb_Paid_C : Code := (Try.f15.body).getD .skip
noncomputable def Cb_Paid_A (_Kv : VW) : Pw.A :=
  (A.seq (A.reg (Pw.rn 3 RA.done))
   (A.seq (A.reg (Pw.rn 5 RA.done))
   (A.seq (A.seq (A.reg (Pw.rn 4 (RA.spl 13 (Pw.sk 3 (RA.run RA.done)) (Pw.rn 4 RA.done))))
   (A.cond (A.seq (A.reg (Pw.rn 2 RA.done))
   A.leaf)
   A.leaf))
   (A.seq (A.reg (Pw.rn 4 RA.done))
   A.leaf))))
noncomputable def Cb_Paid_O (Kv : VW) : List Ob := (obs Try.prog Cb_Paid_E 20 (Cb_Paid_A Kv) Cb_Paid_C (fun _ => retQ Try.prog Try.f15.results Kv))
theorem Cb_Paid_e (Kv : VW) (p_0_0p : Option Addr) (p_0_0l p_0_0c : Nat) (p_0_1p : Option Addr) (p_0_1l p_0_1c : Nat) (p_0_2p : Option Addr) (p_0_2l p_0_2c : Nat) (p_0_3 p_0_4 : Int) (take_1p : Option Addr) (take_1l take_1c : Nat) (w : World) : Cb_Paid_sd ⟨p_0_0p, p_0_0l, p_0_0c⟩ ⟨p_0_1p, p_0_1l, p_0_1c⟩ ⟨p_0_2p, p_0_2l, p_0_2c⟩ p_0_3 p_0_4 ⟨take_1p, take_1l, take_1c⟩ (fun r0 r1 w' => Kv (Value.tuple #[(Value.int .i64 r0), (Value.bool r1)]) w') w = W Try.prog Cb_Paid_E 20 (Cb_Paid_A Kv) Cb_Paid_C [] (retQ Try.prog Try.f15.results Kv) [] (startS [(Value.agg #[(Value.slice p_0_0p p_0_0l p_0_0c), (Value.slice p_0_1p p_0_1l p_0_1c), (Value.slice p_0_2p p_0_2l p_0_2c), (Value.int .i64 p_0_3), (Value.int .i64 p_0_4)]), (Value.slice take_1p take_1l take_1c)]) w := by kernel_rfl
theorem Cb_Paid_n (Kv : VW) : obAt (Cb_Paid_O Kv) 0 = none := by kernel_rfl
theorem Cb_Paid_h (Kv : VW) : ∀ k, holdsAt Try.prog Cb_Paid_E 20 (Cb_Paid_O Kv) k := fun _ => holdsAt_ge (Cb_Paid_n Kv) (Nat.zero_le _)
theorem Cb_Paid_ok : Sound Try.prog 15 Cb_Paid_S := ⟨Try.call15, fun vs w Kv h => by
  unfold Cb_Paid_S at h
  split at h
  · have h := h.out
    rw [Cb_Paid_e] at h
    exact calls_sound (Γ := Cb_Paid_E) progMixed ⟨.inl Cb_right_ok, .inl Cp_fits_ok, .inl Cp_least_ok, trivial⟩ Try.func15 (code := Cb_Paid_C) (by kernel_rfl) (Cb_Paid_A Kv) Kv (holds_all (Cb_Paid_h Kv)) (Nat.le_of_ble_eq_true (by kernel_rfl)) h
  · exact h.elim⟩
/-! Cb_Better -/
def Cb_Better_k0d (p_3 x_7 y_8 : Addr) (K : Bool -> World -> Prop) (w : World) : Prop :=
  ∃ x22 : Sl, w.cell? p_3 = some (Value.slice x22.p x22.l x22.c) /\ ∃ x23 : Sl, w.cell? (p_3.add 1) = some (Value.slice x23.p x23.l x23.c) /\ ∃ x24 : Sl, w.cell? (p_3.add 2) = some (Value.slice x24.p x24.l x24.c) /\ ∃ x25 : Int, w.cell? (p_3.add 3) = some (Value.int .i64 x25) /\ ∃ x26 : Int, w.cell? (p_3.add 4) = some (Value.int .i64 x26) /\ Cb_right_sh x22 x23 x24 x25 x26 (fun r28 w27 => cnd r28
    (∃ x29 : Sl, w27.cell? x_7 = some (Value.slice x29.p x29.l x29.c) /\ ∃ x30 : Sl, w27.cell? (x_7.add 1) = some (Value.slice x30.p x30.l x30.c) /\ ∃ x31 : Sl, w27.cell? (x_7.add 2) = some (Value.slice x31.p x31.l x31.c) /\ ∃ x32 : Int, w27.cell? (x_7.add 3) = some (Value.int .i64 x32) /\ ∃ x33 : Int, w27.cell? (x_7.add 4) = some (Value.int .i64 x33) /\ ∃ x34 : Sl, w27.cell? (x_7.add 5) = some (Value.slice x34.p x34.l x34.c) /\ Cp_permitted_sh x29 x30 x31 x32 x33 x34 (fun r36 w35 => cnd r36
    (∃ x37 : Sl, w35.cell? y_8 = some (Value.slice x37.p x37.l x37.c) /\ ∃ x38 : Sl, w35.cell? (y_8.add 1) = some (Value.slice x38.p x38.l x38.c) /\ ∃ x39 : Sl, w35.cell? (y_8.add 2) = some (Value.slice x39.p x39.l x39.c) /\ ∃ x40 : Int, w35.cell? (y_8.add 3) = some (Value.int .i64 x40) /\ ∃ x41 : Int, w35.cell? (y_8.add 4) = some (Value.int .i64 x41) /\ ∃ x42 : Sl, w35.cell? (y_8.add 5) = some (Value.slice x42.p x42.l x42.c) /\ Cp_permitted_sh x37 x38 x39 x40 x41 x42 (fun r44 w43 => cnd (!r44)
    (K true w43)
    (∃ x45 : Sl, w43.cell? x_7 = some (Value.slice x45.p x45.l x45.c) /\ ∃ x46 : Sl, w43.cell? (x_7.add 1) = some (Value.slice x46.p x46.l x46.c) /\ ∃ x47 : Sl, w43.cell? (x_7.add 2) = some (Value.slice x47.p x47.l x47.c) /\ ∃ x48 : Int, w43.cell? (x_7.add 3) = some (Value.int .i64 x48) /\ ∃ x49 : Int, w43.cell? (x_7.add 4) = some (Value.int .i64 x49) /\ ∃ x50 : Sl, w43.cell? (x_7.add 5) = some (Value.slice x50.p x50.l x50.c) /\ ∃ x51 : Sl, w43.cell? y_8 = some (Value.slice x51.p x51.l x51.c) /\ ∃ x52 : Sl, w43.cell? (y_8.add 1) = some (Value.slice x52.p x52.l x52.c) /\ ∃ x53 : Sl, w43.cell? (y_8.add 2) = some (Value.slice x53.p x53.l x53.c) /\ ∃ x54 : Int, w43.cell? (y_8.add 3) = some (Value.int .i64 x54) /\ ∃ x55 : Int, w43.cell? (y_8.add 4) = some (Value.int .i64 x55) /\ ∃ x56 : Sl, w43.cell? (y_8.add 5) = some (Value.slice x56.p x56.l x56.c) /\ Cb_better_sh x45 x46 x47 x48 x49 x50 x51 x52 x53 x54 x55 x56 (fun r58 w57 => K r58 w57) w43)) w35)
    (K false w35)) w27)
    (K false w27)) w
structure Cb_Better_k0 (p_3 x_7 y_8 : Addr) (K : Bool -> World -> Prop) (w : World) : Prop where
  out : Cb_Better_k0d p_3 x_7 y_8 K w
def Cb_Better_sd (p_0_0 p_0_1 p_0_2 : Sl) (p_0_3 p_0_4 : Int) (a_1 b_2 : Sl) (K : Bool -> World -> Prop) (w : World) : Prop :=
  let w1 := w.alloc (Obj.cells #[(Value.slice p_0_0.p p_0_0.l p_0_0.c), (Value.slice p_0_1.p p_0_1.l p_0_1.c), (Value.slice p_0_2.p p_0_2.l p_0_2.c), (Value.int .i64 p_0_3), (Value.int .i64 p_0_4)] 28)
  let w2 := w1.drew
  ∃ S3 : World -> Prop, S3 w2 /\ ∃ x4 : Sl, (∀ w' : World, S3 w' -> w'.cell? (Addr.mk w.heap.size 0 none) = some (Value.slice x4.p x4.l x4.c)) /\ ∃ x5 : Sl, (∀ w' : World, S3 w' -> w'.cell? (Addr.mk w.heap.size 1 none) = some (Value.slice x5.p x5.l x5.c)) /\ ∃ x6 : Sl, (∀ w' : World, S3 w' -> w'.cell? (Addr.mk w.heap.size 2 none) = some (Value.slice x6.p x6.l x6.c)) /\ ∃ x7 : Int, (∀ w' : World, S3 w' -> w'.cell? (Addr.mk w.heap.size 3 none) = some (Value.int .i64 x7)) /\ ∃ x8 : Int, (∀ w' : World, S3 w' -> w'.cell? (Addr.mk w.heap.size 4 none) = some (Value.int .i64 x8)) /\ ∃ x9 : Sl, (∀ w' : World, S3 w' -> w'.cell? (Addr.mk w.heap.size 0 none) = some (Value.slice x9.p x9.l x9.c)) /\ ∃ x10 : Sl, (∀ w' : World, S3 w' -> w'.cell? (Addr.mk w.heap.size 1 none) = some (Value.slice x10.p x10.l x10.c)) /\ ∃ x11 : Sl, (∀ w' : World, S3 w' -> w'.cell? (Addr.mk w.heap.size 2 none) = some (Value.slice x11.p x11.l x11.c)) /\ ∃ x12 : Int, (∀ w' : World, S3 w' -> w'.cell? (Addr.mk w.heap.size 3 none) = some (Value.int .i64 x12)) /\ ∃ x13 : Int, (∀ w' : World, S3 w' -> w'.cell? (Addr.mk w.heap.size 4 none) = some (Value.int .i64 x13)) /\ (let w14 := w2.alloc (Obj.cells #[(Value.slice none 0 0), (Value.slice none 0 0), (Value.slice none 0 0), (Value.int .i64 0), (Value.int .i64 0), (Value.slice none 0 0)] 65)
  S3 w14 /\ let w15 := w14.alloc (Obj.cells #[(Value.slice none 0 0), (Value.slice none 0 0), (Value.slice none 0 0), (Value.int .i64 0), (Value.int .i64 0), (Value.slice none 0 0)] 65)
  S3 w15 /\ stN w15 (Addr.mk w2.heap.size 0 none) [(Value.slice x4.p x4.l x4.c), (Value.slice x5.p x5.l x5.c), (Value.slice x6.p x6.l x6.c), (Value.int .i64 x7), (Value.int .i64 x8), (Value.slice a_1.p a_1.l a_1.c)] fun w16 => S3 w16 /\ stN w16 (Addr.mk w14.heap.size 0 none) [(Value.slice x9.p x9.l x9.c), (Value.slice x10.p x10.l x10.c), (Value.slice x11.p x11.l x11.c), (Value.int .i64 x12), (Value.int .i64 x13), (Value.slice b_2.p b_2.l b_2.c)] fun w17 => Cb_Better_k0 (Addr.mk w.heap.size 0 none) (Addr.mk w2.heap.size 0 none) (Addr.mk w14.heap.size 0 none) K w17)
    /\ (let w18 := w2.alloc (Obj.cells #[(Value.slice none 0 0), (Value.slice none 0 0), (Value.slice none 0 0), (Value.int .i64 0), (Value.int .i64 0), (Value.slice none 0 0)] 65)
  S3 w18 /\ let w19 := w18.alloc (Obj.cells #[(Value.slice none 0 0), (Value.slice none 0 0), (Value.slice none 0 0), (Value.int .i64 0), (Value.int .i64 0), (Value.slice none 0 0)] 65)
  S3 w19 /\ stN w19 (Addr.mk w18.heap.size 0 none) [(Value.slice x4.p x4.l x4.c), (Value.slice x5.p x5.l x5.c), (Value.slice x6.p x6.l x6.c), (Value.int .i64 x7), (Value.int .i64 x8), (Value.slice a_1.p a_1.l a_1.c)] fun w20 => S3 w20 /\ stN w20 (Addr.mk w2.heap.size 0 none) [(Value.slice x9.p x9.l x9.c), (Value.slice x10.p x10.l x10.c), (Value.slice x11.p x11.l x11.c), (Value.int .i64 x12), (Value.int .i64 x13), (Value.slice b_2.p b_2.l b_2.c)] fun w21 => Cb_Better_k0 (Addr.mk w.heap.size 0 none) (Addr.mk w18.heap.size 0 none) (Addr.mk w2.heap.size 0 none) K w21)
structure Cb_Better_sh (p_0_0 p_0_1 p_0_2 : Sl) (p_0_3 p_0_4 : Int) (a_1 b_2 : Sl) (K : Bool -> World -> Prop) (w : World) : Prop where
  out : Cb_Better_sd p_0_0 p_0_1 p_0_2 p_0_3 p_0_4 a_1 b_2 K w
def Cb_Better_P0 (Kv : VW) (ρ : Rho) (vs : List Value) (w : World) : Prop :=
  match ρ, vs with
  | _, [.pointer (some p_3), .pointer (some x_7), .pointer (some y_8)] => Cb_Better_k0 p_3 x_7 y_8 (fun r0 w' => Kv (Value.bool r0) w') w
  | _, _ => False
noncomputable def Cb_Better_S : Pw.Spec := fun vs w Kv =>
  match vs with
  | [.agg ⟨[.slice p_0_0p p_0_0l p_0_0c, .slice p_0_1p p_0_1l p_0_1c, .slice p_0_2p p_0_2l p_0_2c, .int .i64 p_0_3, .int .i64 p_0_4]⟩, .slice a_1p a_1l a_1c, .slice b_2p b_2l b_2c] => Cb_Better_sh ⟨p_0_0p, p_0_0l, p_0_0c⟩ ⟨p_0_1p, p_0_1l, p_0_1c⟩ ⟨p_0_2p, p_0_2l, p_0_2c⟩ p_0_3 p_0_4 ⟨a_1p, a_1l, a_1c⟩ ⟨b_2p, b_2l, b_2c⟩ (fun r0 w' => Kv (Value.bool r0) w') w
  | _ => False
noncomputable def Cb_Better_E : Pw.Env := [(20, Cb_right_S), (29, Cp_permitted_S), (30, Cb_better_S)]
noncomputable def Cb_Better_C : Code := (Try.f14.body).getD .skip
noncomputable def Cb_Better_A (Kv : VW) : Pw.A :=
  (A.seq (A.reg (Pw.rn 2 RA.done))
   (A.seq (A.drw (DA.pur 0 (DA.pur 1 (DA.pur 2 (DA.pur 3 (DA.pur 4 (DA.pur 5 (DA.two 6 (DA.eff 7 (DA.eff 8 (DA.eff 9 DA.done))) 7 (DA.eff 6 (DA.eff 8 (DA.eff 9 DA.done)))))))))))
   (A.cut [3, 7, 8] (Cb_Better_P0 Kv) (A.seq (A.reg (Pw.rn 3 (RA.spl 17 (Pw.rn 4 (RA.spl 21 (Pw.rn 4 (RA.spl 25 (Pw.sk 3 (Pw.rn 3 RA.done)) (Pw.rn 6 RA.done))) (Pw.sk 8 (Pw.rn 2 RA.done)))) (Pw.sk 2 (Pw.rn 2 (Pw.sk 8 (Pw.rn 2 RA.done)))))))
   A.leaf))))
noncomputable def Cb_Better_O (Kv : VW) : List Ob := (obs Try.prog Cb_Better_E 31 (Cb_Better_A Kv) Cb_Better_C (fun _ => retQ Try.prog Try.f14.results Kv))
theorem Cb_Better_e (Kv : VW) (p_0_0p : Option Addr) (p_0_0l p_0_0c : Nat) (p_0_1p : Option Addr) (p_0_1l p_0_1c : Nat) (p_0_2p : Option Addr) (p_0_2l p_0_2c : Nat) (p_0_3 p_0_4 : Int) (a_1p : Option Addr) (a_1l a_1c : Nat) (b_2p : Option Addr) (b_2l b_2c : Nat) (w : World) : Cb_Better_sd ⟨p_0_0p, p_0_0l, p_0_0c⟩ ⟨p_0_1p, p_0_1l, p_0_1c⟩ ⟨p_0_2p, p_0_2l, p_0_2c⟩ p_0_3 p_0_4 ⟨a_1p, a_1l, a_1c⟩ ⟨b_2p, b_2l, b_2c⟩ (fun r0 w' => Kv (Value.bool r0) w') w = W Try.prog Cb_Better_E 31 (Cb_Better_A Kv) Cb_Better_C [] (retQ Try.prog Try.f14.results Kv) [] (startS [(Value.agg #[(Value.slice p_0_0p p_0_0l p_0_0c), (Value.slice p_0_1p p_0_1l p_0_1c), (Value.slice p_0_2p p_0_2l p_0_2c), (Value.int .i64 p_0_3), (Value.int .i64 p_0_4)]), (Value.slice a_1p a_1l a_1c), (Value.slice b_2p b_2l b_2c)]) w := by kernel_rfl
theorem Cb_Better_e0 (Kv : VW) (ρ : Rho) (p_3 x_7 y_8 : Addr) (w : World) : Cb_Better_k0d p_3 x_7 y_8 (fun r0 w' => Kv (Value.bool r0) w') w = goalAt Try.prog Cb_Better_E 31 (Cb_Better_O Kv) 0 (ρ) [(Value.pointer (some p_3)), (Value.pointer (some x_7)), (Value.pointer (some y_8))] w := by kernel_rfl
theorem Cb_Better_q0 (Kv : VW) (ρ : Rho) (vs : List Value) (w : World) : labAt (Cb_Better_O Kv) 0 ρ vs w = Cb_Better_P0 Kv ρ vs w := by kernel_rfl
theorem Cb_Better_h0 (Kv : VW) : holdsAt Try.prog Cb_Better_E 31 (Cb_Better_O Kv) 0 := holdsAt_cut (.inl (by kernel_rfl)) (fun ρ vs w h => by
  rw [Cb_Better_q0] at h
  unfold Cb_Better_P0 at h
  split at h
  · rw [← Cb_Better_e0]; exact h.out
  · exact h.elim)
theorem Cb_Better_n (Kv : VW) : obAt (Cb_Better_O Kv) 1 = none := by kernel_rfl
theorem Cb_Better_h (Kv : VW) : ∀ k, holdsAt Try.prog Cb_Better_E 31 (Cb_Better_O Kv) k := fun k => match k with
  | 0 => Cb_Better_h0 Kv
  | _k + 1 => holdsAt_ge (Cb_Better_n Kv) (Nat.le_add_left _ _)
theorem Cb_Better_ok : Sound Try.prog 14 Cb_Better_S := ⟨Try.call14, fun vs w Kv h => by
  unfold Cb_Better_S at h
  split at h
  · have h := h.out
    rw [Cb_Better_e] at h
    exact calls_sound (Γ := Cb_Better_E) progMixed ⟨.inl Cb_right_ok, .inl Cp_permitted_ok, .inl Cb_better_ok, trivial⟩ Try.func14 (code := Cb_Better_C) (by kernel_rfl) (Cb_Better_A Kv) Kv (holds_all (Cb_Better_h Kv)) (Nat.le_of_ble_eq_true (by kernel_rfl)) h
  · exact h.elim⟩
/-! Cb_Points -/
def Cb_Points_sd (p_0_0 p_0_1 p_0_2 : Sl) (p_0_3 p_0_4 : Int) (take_1 : Sl) (K : Int -> World -> Prop) (w : World) : Prop :=
  let w1 := w.alloc (Obj.cells #[(Value.slice p_0_0.p p_0_0.l p_0_0.c), (Value.slice p_0_1.p p_0_1.l p_0_1.c), (Value.slice p_0_2.p p_0_2.l p_0_2.c), (Value.int .i64 p_0_3), (Value.int .i64 p_0_4)] 28)
  ∃ x2 : Sl, w1.cell? (Addr.mk w.heap.size 0 none) = some (Value.slice x2.p x2.l x2.c) /\ ∃ x3 : Sl, w1.cell? (Addr.mk w.heap.size 1 none) = some (Value.slice x3.p x3.l x3.c) /\ ∃ x4 : Sl, w1.cell? (Addr.mk w.heap.size 2 none) = some (Value.slice x4.p x4.l x4.c) /\ ∃ x5 : Int, w1.cell? (Addr.mk w.heap.size 3 none) = some (Value.int .i64 x5) /\ ∃ x6 : Int, w1.cell? (Addr.mk w.heap.size 4 none) = some (Value.int .i64 x6) /\ let w7 := w1.alloc (Obj.cells #[(Value.slice none 0 0), (Value.slice none 0 0), (Value.slice none 0 0), (Value.int .i64 0), (Value.int .i64 0), (Value.slice none 0 0)] 65)
  stN w7 (Addr.mk w1.heap.size 0 none) [(Value.slice x2.p x2.l x2.c), (Value.slice x3.p x3.l x3.c), (Value.slice x4.p x4.l x4.c), (Value.int .i64 x5), (Value.int .i64 x6), (Value.slice take_1.p take_1.l take_1.c)] fun w8 => ∃ x9 : Sl, w8.cell? (Addr.mk w.heap.size 0 none) = some (Value.slice x9.p x9.l x9.c) /\ ∃ x10 : Sl, w8.cell? (Addr.mk w.heap.size 1 none) = some (Value.slice x10.p x10.l x10.c) /\ ∃ x11 : Sl, w8.cell? (Addr.mk w.heap.size 2 none) = some (Value.slice x11.p x11.l x11.c) /\ ∃ x12 : Int, w8.cell? (Addr.mk w.heap.size 3 none) = some (Value.int .i64 x12) /\ ∃ x13 : Int, w8.cell? (Addr.mk w.heap.size 4 none) = some (Value.int .i64 x13) /\ Cb_right_sh x9 x10 x11 x12 x13 (fun r15 w14 => cnd (!r15)
    (K (0 : Int) w14)
    (∃ x16 : Sl, w14.cell? (Addr.mk w1.heap.size 0 none) = some (Value.slice x16.p x16.l x16.c) /\ ∃ x17 : Sl, w14.cell? (Addr.mk w1.heap.size 1 none) = some (Value.slice x17.p x17.l x17.c) /\ ∃ x18 : Sl, w14.cell? (Addr.mk w1.heap.size 2 none) = some (Value.slice x18.p x18.l x18.c) /\ ∃ x19 : Int, w14.cell? (Addr.mk w1.heap.size 3 none) = some (Value.int .i64 x19) /\ ∃ x20 : Int, w14.cell? (Addr.mk w1.heap.size 4 none) = some (Value.int .i64 x20) /\ ∃ x21 : Sl, w14.cell? (Addr.mk w1.heap.size 5 none) = some (Value.slice x21.p x21.l x21.c) /\ Cp_fits_sh x16 x17 x18 x19 x20 x21 (fun r23 w22 => cnd (!r23)
    (K (0 : Int) w22)
    (∃ x24 : Sl, w22.cell? (Addr.mk w1.heap.size 0 none) = some (Value.slice x24.p x24.l x24.c) /\ ∃ x25 : Sl, w22.cell? (Addr.mk w1.heap.size 1 none) = some (Value.slice x25.p x25.l x25.c) /\ ∃ x26 : Sl, w22.cell? (Addr.mk w1.heap.size 2 none) = some (Value.slice x26.p x26.l x26.c) /\ ∃ x27 : Int, w22.cell? (Addr.mk w1.heap.size 3 none) = some (Value.int .i64 x27) /\ ∃ x28 : Int, w22.cell? (Addr.mk w1.heap.size 4 none) = some (Value.int .i64 x28) /\ ∃ x29 : Sl, w22.cell? (Addr.mk w1.heap.size 5 none) = some (Value.slice x29.p x29.l x29.c) /\ Cp_points_sh x24 x25 x26 x27 x28 x29 (fun r31 w30 => K r31 w30) w22)) w14)) w8
structure Cb_Points_sh (p_0_0 p_0_1 p_0_2 : Sl) (p_0_3 p_0_4 : Int) (take_1 : Sl) (K : Int -> World -> Prop) (w : World) : Prop where
  out : Cb_Points_sd p_0_0 p_0_1 p_0_2 p_0_3 p_0_4 take_1 K w
noncomputable def Cb_Points_S : Pw.Spec := fun vs w Kv =>
  match vs with
  | [.agg ⟨[.slice p_0_0p p_0_0l p_0_0c, .slice p_0_1p p_0_1l p_0_1c, .slice p_0_2p p_0_2l p_0_2c, .int .i64 p_0_3, .int .i64 p_0_4]⟩, .slice take_1p take_1l take_1c] => Cb_Points_sh ⟨p_0_0p, p_0_0l, p_0_0c⟩ ⟨p_0_1p, p_0_1l, p_0_1c⟩ ⟨p_0_2p, p_0_2l, p_0_2c⟩ p_0_3 p_0_4 ⟨take_1p, take_1l, take_1c⟩ (fun r0 w' => Kv (Value.int .i64 r0) w') w
  | _ => False
noncomputable def Cb_Points_E : Pw.Env := [(20, Cb_right_S), (24, Cp_points_S), (31, Cp_fits_S)]
noncomputable def Cb_Points_C : Code := (Try.f16.body).getD .skip
noncomputable def Cb_Points_A (_Kv : VW) : Pw.A :=
  (A.seq (A.reg (Pw.rn 2 RA.done))
   (A.seq (A.reg (Pw.rn 5 RA.done))
   (A.seq (A.seq (A.reg (Pw.rn 4 (RA.spl 12 (Pw.sk 3 (RA.run RA.done)) (Pw.rn 4 RA.done))))
   (A.cond (A.seq (A.reg (RA.run RA.done))
   A.leaf)
   A.leaf))
   (A.seq (A.reg (Pw.rn 3 RA.done))
   A.leaf))))
noncomputable def Cb_Points_O (Kv : VW) : List Ob := (obs Try.prog Cb_Points_E 19 (Cb_Points_A Kv) Cb_Points_C (fun _ => retQ Try.prog Try.f16.results Kv))
theorem Cb_Points_e (Kv : VW) (p_0_0p : Option Addr) (p_0_0l p_0_0c : Nat) (p_0_1p : Option Addr) (p_0_1l p_0_1c : Nat) (p_0_2p : Option Addr) (p_0_2l p_0_2c : Nat) (p_0_3 p_0_4 : Int) (take_1p : Option Addr) (take_1l take_1c : Nat) (w : World) : Cb_Points_sd ⟨p_0_0p, p_0_0l, p_0_0c⟩ ⟨p_0_1p, p_0_1l, p_0_1c⟩ ⟨p_0_2p, p_0_2l, p_0_2c⟩ p_0_3 p_0_4 ⟨take_1p, take_1l, take_1c⟩ (fun r0 w' => Kv (Value.int .i64 r0) w') w = W Try.prog Cb_Points_E 19 (Cb_Points_A Kv) Cb_Points_C [] (retQ Try.prog Try.f16.results Kv) [] (startS [(Value.agg #[(Value.slice p_0_0p p_0_0l p_0_0c), (Value.slice p_0_1p p_0_1l p_0_1c), (Value.slice p_0_2p p_0_2l p_0_2c), (Value.int .i64 p_0_3), (Value.int .i64 p_0_4)]), (Value.slice take_1p take_1l take_1c)]) w := by kernel_rfl
theorem Cb_Points_n (Kv : VW) : obAt (Cb_Points_O Kv) 0 = none := by kernel_rfl
theorem Cb_Points_h (Kv : VW) : ∀ k, holdsAt Try.prog Cb_Points_E 19 (Cb_Points_O Kv) k := fun _ => holdsAt_ge (Cb_Points_n Kv) (Nat.zero_le _)
theorem Cb_Points_ok : Sound Try.prog 16 Cb_Points_S := ⟨Try.call16, fun vs w Kv h => by
  unfold Cb_Points_S at h
  split at h
  · have h := h.out
    rw [Cb_Points_e] at h
    exact calls_sound (Γ := Cb_Points_E) progMixed ⟨.inl Cb_right_ok, .inl Cp_points_ok, .inl Cp_fits_ok, trivial⟩ Try.func16 (code := Cb_Points_C) (by kernel_rfl) (Cb_Points_A Kv) Kv (holds_all (Cb_Points_h Kv)) (Nat.le_of_ble_eq_true (by kernel_rfl)) h
  · exact h.elim⟩
end Go.Proofs.Ytmkjcheafdionaa
