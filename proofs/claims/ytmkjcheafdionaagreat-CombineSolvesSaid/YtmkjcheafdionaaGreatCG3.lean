/- The bodies' formulas, by program. -/
import Derived.Test.YtmkjcheafdionaaGreatProg
import Derived.KernelRfl
import Derived.Test.YtmkjcheafdionaaGreatPwX
import Derived.Test.YtmkjcheafdionaaGreatCG0
import Derived.Test.YtmkjcheafdionaaGreatCG1
import Derived.Test.YtmkjcheafdionaaGreatCG2
set_option maxRecDepth 20000
namespace Go.Proofs.YtmkjcheafdionaaGreat
open Go Pw
/-! Cb_leastOf -/
def z15_k1d (key_1 : Value) (best_4 x_8 : Addr) (k_9 : Int) (t_11 : Sl) (t_12 t_13 : Int) (N0 : Value -> Addr -> Int -> Bool -> Sl -> Int -> Int -> World -> Prop) (_K : Int -> Int -> Int -> Bool -> World -> Prop) (w : World) : Prop :=
  ∃ x14 : Int, w.cell? x_8 = some (Value.int .i64 x14) /\ ∃ x15 : Int, w.cell? (x_8.add 1) = some (Value.int .i64 x15) /\ wrOk w best_4 /\ 
  (let w16 := w.setCell best_4 (Value.int .i64 x14)
  wrOk w16 (best_4.add 1) /\ 
  (let w17 := w16.setCell (best_4.add 1) (Value.int .i64 x15)
  inR .i64 (t_13 + (1 : Int)) /\ N0 key_1 best_4 k_9 true t_11 t_12 (t_13 + (1 : Int)) w17))
structure z15_k1 (key_1 : Value) (best_4 x_8 : Addr) (k_9 : Int) (t_11 : Sl) (t_12 t_13 : Int) (N0 : Value -> Addr -> Int -> Bool -> Sl -> Int -> Int -> World -> Prop) (K : Pw.T8) (w : World) : Prop where
  out : z15_k1d key_1 best_4 x_8 k_9 t_11 t_12 t_13 N0 K w
def z15_b0 (key_1 : Value) (best_4 : Addr) (n_5 : Int) (found_6 : Bool) (t_11 : Sl) (t_12 t_13 : Int) (N0 : Value -> Addr -> Int -> Bool -> Sl -> Int -> Int -> World -> Prop) (K : Pw.T8) (w : World) : Prop :=
  cnd (decide (t_13 < t_12))
    (nz t_11.p fun a2 => (0 <= t_13 /\ t_13 < (t_11.l : Nat)) /\ ∃ x3 : Int, w.cell? (a2.add (t_13.toNat * 2)) = some (Value.int .i64 x3) /\ ∃ x4 : Int, w.cell? ((a2.add (t_13.toNat * 2)).add 1) = some (Value.int .i64 x4) /\ let w5 := w.alloc (Obj.cells #[(Value.int .i64 0), (Value.int .i64 0)] 44)
  wrOk w5 (Addr.mk w.heap.size 0 none) /\ 
  (let w6 := w5.setCell (Addr.mk w.heap.size 0 none) (Value.int .i64 x3)
  wrOk w6 (Addr.mk w.heap.size 1 none) /\ 
  (let w7 := w6.setCell (Addr.mk w.heap.size 1 none) (Value.int .i64 x4)
  ∃ x8 : Int, w7.cell? (Addr.mk w.heap.size 0 none) = some (Value.int .i64 x8) /\ ∃ x9 : Int, w7.cell? (Addr.mk w.heap.size 1 none) = some (Value.int .i64 x9) /\ CallV Tryz.prog key_1 [(Value.agg #[(Value.int .i64 x8), (Value.int .i64 x9)])] w7 fun u10 w11 => ∃ x12 : Int, ∃ x13 : Bool, u10 = (Value.tuple #[(Value.int .i64 x12), (Value.bool x13)]) /\ cnd x13
    (cnd (!found_6)
    (z15_k1 key_1 best_4 (Addr.mk w.heap.size 0 none) x12 t_11 t_12 t_13 N0 K w11)
    (cnd (decide (x12 < n_5))
    (z15_k1 key_1 best_4 (Addr.mk w.heap.size 0 none) x12 t_11 t_12 t_13 N0 K w11)
    (inR .i64 (t_13 + (1 : Int)) /\ N0 key_1 best_4 n_5 found_6 t_11 t_12 (t_13 + (1 : Int)) w11)))
    (inR .i64 (t_13 + (1 : Int)) /\ N0 key_1 best_4 n_5 found_6 t_11 t_12 (t_13 + (1 : Int)) w11))))
    (∃ x18 : Int, w.cell? best_4 = some (Value.int .i64 x18) /\ ∃ x19 : Int, w.cell? (best_4.add 1) = some (Value.int .i64 x19) /\ wrOk w best_4 /\ 
  (let w20 := w.setCell best_4 (Value.int .i64 x18)
  wrOk w20 (best_4.add 1) /\ 
  (let w21 := w20.setCell (best_4.add 1) (Value.int .i64 x19)
  ∃ x22 : Int, w21.cell? best_4 = some (Value.int .i64 x22) /\ ∃ x23 : Int, w21.cell? (best_4.add 1) = some (Value.int .i64 x23) /\ K x22 x23 n_5 found_6 w21)))
def z15_l0d (key_1 : Value) (best_4 : Addr) (n_5 : Int) (found_6 : Bool) (t_11 : Sl) (t_12 t_13 : Int) (K : Pw.T8) (w : World) : Prop :=
  ∃ (I : Int -> Bool -> Int -> World -> Prop) (μ : Int -> Bool -> Int -> World -> Nat), I n_5 found_6 t_13 w /\ ∀ (n_51 : Int) (found_61 : Bool) (t_131 : Int) (w1 : World), I n_51 found_61 t_131 w1 ->
    z15_b0 key_1 best_4 n_51 found_61 t_11 t_12 t_131 (fun key_1' best_4' n_5' found_6' t_11' t_12' t_13' w' => ((key_1' = key_1 /\ best_4' = best_4 /\ t_11' = t_11 /\ t_12' = t_12 /\ True) /\ I n_5' found_6' t_13' w') /\ μ n_5' found_6' t_13' w' < μ n_51 found_61 t_131 w1) K w1
structure z15_l0 (key_1 : Value) (best_4 : Addr) (n_5 : Int) (found_6 : Bool) (t_11 : Sl) (t_12 t_13 : Int) (K : Pw.T8) (w : World) : Prop where
  out : z15_l0d key_1 best_4 n_5 found_6 t_11 t_12 t_13 K w
def z15_sd (l_0 : Sl) (key_1 : Value) (K : Pw.T8) (w : World) : Prop :=
  let w1 := w.alloc (Obj.cells #[(Value.int .i64 0), (Value.int .i64 0)] 44)
  z15_l0 key_1 (Addr.mk w.heap.size 0 none) (0 : Int) false l_0 (l_0.l : Int) (0 : Int) K w1
structure z15_sh (l_0 : Sl) (key_1 : Value) (K : Pw.T8) (w : World) : Prop where
  out : z15_sd l_0 key_1 K w
def z15_P0 (Kv : VW) (ρ : Rho) (vs : List Value) (w : World) : Prop :=
  match ρ, vs with
  | _, [key_1, .pointer (some best_4), .int .i64 n_5, .bool found_6, .slice t_11p t_11l t_11c, .int .i64 t_12, .int .i64 t_13] => z15_l0 key_1 best_4 n_5 found_6 ⟨t_11p, t_11l, t_11c⟩ t_12 t_13 (fun r0_0 r0_1 r1 r2 w' => Kv (Value.tuple #[(Value.agg #[(Value.int .i64 r0_0), (Value.int .i64 r0_1)]), (Value.int .i64 r1), (Value.bool r2)]) w') w
  | _, _ => False
def z15_P1 (Kv : VW) (ρ : Rho) (vs : List Value) (w : World) : Prop :=
  match ρ, vs with
  | N0 :: _, [key_1, .pointer (some best_4), .pointer (some x_8), .int .i64 k_9, .slice t_11p t_11l t_11c, .int .i64 t_12, .int .i64 t_13] => z15_k1 key_1 best_4 x_8 k_9 ⟨t_11p, t_11l, t_11c⟩ t_12 t_13 (fun key_1' best_4' n_5' found_6' t_11' t_12' t_13' w' => N0 [key_1', (Value.pointer (some best_4')), (Value.int .i64 n_5'), (Value.bool found_6'), (Value.slice t_11'.p t_11'.l t_11'.c), (Value.int .i64 t_12'), (Value.int .i64 t_13')] w') (fun r0_0 r0_1 r1 r2 w' => Kv (Value.tuple #[(Value.agg #[(Value.int .i64 r0_0), (Value.int .i64 r0_1)]), (Value.int .i64 r1), (Value.bool r2)]) w') w
  | _, _ => False
noncomputable def z15_S : Pw.Spec := fun vs w Kv =>
  match vs with
  | [.slice l_0p l_0l l_0c, key_1] => z15_sh ⟨l_0p, l_0l, l_0c⟩ key_1 (fun r0_0 r0_1 r1 r2 w' => Kv (Value.tuple #[(Value.agg #[(Value.int .i64 r0_0), (Value.int .i64 r0_1)]), (Value.int .i64 r1), (Value.bool r2)]) w') w
  | _ => False
noncomputable def z15_E : Pw.Env := []
noncomputable def z15_C : Code := (Tryz.f81.body).getD .skip
noncomputable def z15_A (Kv : VW) : Pw.A :=
  (A.seq (A.reg (Pw.rn 3 RA.done))
   (A.seq (A.seq (A.reg (Pw.rn 3 RA.done))
   (A.blk (A.loop [1, 4, 5, 6, 11, 12, 13] (z15_P0 Kv) (A.seq (A.reg (RA.run RA.done))
   (A.seq (A.cond A.leaf
   A.leaf)
   (A.seq (A.blk (A.seq (A.reg (Pw.rn 4 RA.done))
   (A.seq (A.reg (Pw.rn 2 (RA.dyn (Value.tuple #[(Value.int .i64 0), (Value.bool false)]) (Pw.rn 5 RA.done))))
   (A.seq (A.reg (Pw.rn 2 (RA.spl 24 (Pw.rn 3 (RA.spl 27 (Pw.sk 3 (Pw.rn 2 RA.done)) (Pw.rn 5 RA.done))) (Pw.sk 7 (RA.run RA.done)))))
   (A.cond (A.cut [1, 4, 8, 9, 11, 12, 13] (z15_P1 Kv) (A.reg (Pw.rn 5 RA.done)))
   A.leaf)))))
   (A.reg (Pw.rn 2 RA.done))))))))
   (A.seq (A.reg (Pw.rn 6 RA.done))
   A.leaf)))
noncomputable def z15_O (Kv : VW) : List Ob := (obs Tryz.prog z15_E 39 (z15_A Kv) z15_C (fun _ => retQ Tryz.prog Tryz.f81.results Kv))
theorem z15_e (Kv : VW) (l_0p : Option Addr) (l_0l l_0c : Nat) (key_1 : Value) (w : World) : z15_sd ⟨l_0p, l_0l, l_0c⟩ key_1 (fun r0_0 r0_1 r1 r2 w' => Kv (Value.tuple #[(Value.agg #[(Value.int .i64 r0_0), (Value.int .i64 r0_1)]), (Value.int .i64 r1), (Value.bool r2)]) w') w = W Tryz.prog z15_E 39 (z15_A Kv) z15_C [] (retQ Tryz.prog Tryz.f81.results Kv) [] (startS [(Value.slice l_0p l_0l l_0c), key_1]) w := by kernel_rfl
theorem z15_e0 (Kv : VW) (N0 : List Value -> World -> Prop) (ρ : Rho) (key_1 : Value) (best_4 : Addr) (n_5 : Int) (found_6 : Bool) (t_11p : Option Addr) (t_11l t_11c : Nat) (t_12 t_13 : Int) (w : World) : z15_b0 key_1 best_4 n_5 found_6 ⟨t_11p, t_11l, t_11c⟩ t_12 t_13 (fun key_1' best_4' n_5' found_6' t_11' t_12' t_13' w' => N0 [key_1', (Value.pointer (some best_4')), (Value.int .i64 n_5'), (Value.bool found_6'), (Value.slice t_11'.p t_11'.l t_11'.c), (Value.int .i64 t_12'), (Value.int .i64 t_13')] w') (fun r0_0 r0_1 r1 r2 w' => Kv (Value.tuple #[(Value.agg #[(Value.int .i64 r0_0), (Value.int .i64 r0_1)]), (Value.int .i64 r1), (Value.bool r2)]) w') w = goalAt Tryz.prog z15_E 39 (z15_O Kv) 0 (N0 :: ρ) [key_1, (Value.pointer (some best_4)), (Value.int .i64 n_5), (Value.bool found_6), (Value.slice t_11p t_11l t_11c), (Value.int .i64 t_12), (Value.int .i64 t_13)] w := by kernel_rfl
theorem z15_q0 (Kv : VW) (ρ : Rho) (vs : List Value) (w : World) : labAt (z15_O Kv) 0 ρ vs w = z15_P0 Kv ρ vs w := by kernel_rfl
def z15_I0 (key_10 : Value) (best_40 : Addr) (t_110 : Sl) (t_120 : Int) (I : Int -> Bool -> Int -> World -> Prop) (vs : List Value) (w : World) : Prop :=
  match vs with
  | [key_1, .pointer (some best_4), .int .i64 n_5, .bool found_6, .slice t_11p t_11l t_11c, .int .i64 t_12, .int .i64 t_13] => (key_1 = key_10 /\ best_4 = best_40 /\ ⟨t_11p, t_11l, t_11c⟩ = t_110 /\ t_12 = t_120 /\ True) /\ I n_5 found_6 t_13 w
  | _ => False
def z15_M0 (μ : Int -> Bool -> Int -> World -> Nat) (vs : List Value) (w : World) : Nat :=
  match vs with
  | [_key_1, .pointer (some _best_4), .int .i64 n_5, .bool found_6, .slice _t_11p _t_11l _t_11c, .int .i64 _t_12, .int .i64 t_13] => μ n_5 found_6 t_13 w
  | _ => 0
theorem z15_h0 (Kv : VW) : holdsAt Tryz.prog z15_E 39 (z15_O Kv) 0 := holdsAt_loop (by kernel_rfl) (fun ρ vs w h => by
  rw [z15_q0] at h
  unfold z15_P0 at h
  split at h
  . rename_i ρt key_1 best_4 n_5 found_6 t_11p t_11l t_11c t_12 t_13
    obtain ⟨I, μ, h0, hr⟩ := h.out
    refine ⟨z15_I0 key_1 best_4 ⟨t_11p, t_11l, t_11c⟩ t_12 I, z15_M0 μ, ⟨⟨rfl, rfl, rfl, rfl, trivial⟩, h0⟩, fun vs w hI => ?_⟩
    unfold z15_I0 at hI
    split at hI
    . obtain ⟨⟨h0, h1, h2, h3, _⟩, hI⟩ := hI
      cases h0; cases h1; cases h2; cases h3
      rw [← z15_e0]
      exact hr _ _ _ _ hI
    . exact hI.elim
  . exact h.elim)
theorem z15_e1 (Kv : VW) (N0 : List Value -> World -> Prop) (ρ : Rho) (key_1 : Value) (best_4 x_8 : Addr) (k_9 : Int) (t_11p : Option Addr) (t_11l t_11c : Nat) (t_12 t_13 : Int) (w : World) : z15_k1d key_1 best_4 x_8 k_9 ⟨t_11p, t_11l, t_11c⟩ t_12 t_13 (fun key_1' best_4' n_5' found_6' t_11' t_12' t_13' w' => N0 [key_1', (Value.pointer (some best_4')), (Value.int .i64 n_5'), (Value.bool found_6'), (Value.slice t_11'.p t_11'.l t_11'.c), (Value.int .i64 t_12'), (Value.int .i64 t_13')] w') (fun r0_0 r0_1 r1 r2 w' => Kv (Value.tuple #[(Value.agg #[(Value.int .i64 r0_0), (Value.int .i64 r0_1)]), (Value.int .i64 r1), (Value.bool r2)]) w') w = goalAt Tryz.prog z15_E 39 (z15_O Kv) 1 (N0 :: ρ) [key_1, (Value.pointer (some best_4)), (Value.pointer (some x_8)), (Value.int .i64 k_9), (Value.slice t_11p t_11l t_11c), (Value.int .i64 t_12), (Value.int .i64 t_13)] w := by kernel_rfl
theorem z15_q1 (Kv : VW) (ρ : Rho) (vs : List Value) (w : World) : labAt (z15_O Kv) 1 ρ vs w = z15_P1 Kv ρ vs w := by kernel_rfl
theorem z15_h1 (Kv : VW) : holdsAt Tryz.prog z15_E 39 (z15_O Kv) 1 := holdsAt_cut (.inl (by kernel_rfl)) (fun ρ vs w h => by
  rw [z15_q1] at h
  unfold z15_P1 at h
  split at h
  . rw [← z15_e1]; exact h.out
  . exact h.elim)
theorem z15_n (Kv : VW) : obAt (z15_O Kv) 2 = none := by kernel_rfl
theorem z15_h (Kv : VW) : ∀ k, holdsAt Tryz.prog z15_E 39 (z15_O Kv) k := fun k => match k with
  | 0 => z15_h0 Kv
  | 1 => z15_h1 Kv
  | _k + 2 => holdsAt_ge (z15_n Kv) (Nat.le_add_left _ _)
theorem z15_ok : Sound Tryz.prog 81 z15_S := ⟨Tryz.call81, fun vs w Kv h => by
  unfold z15_S at h
  split at h
  . have h := h.out
    rw [z15_e] at h
    exact calls_sound (Γ := z15_E) progMixed trivial Tryz.func81 (code := z15_C) (by kernel_rfl) (z15_A Kv) Kv (holds_all (z15_h Kv)) (Nat.le_of_ble_eq_true (by kernel_rfl)) h
  . exact h.elim⟩
/-! Cs_hopeless -/
def z11_k0d (t_4 zero_6 : Addr) (K : Pw.T3) (w : World) : Prop :=
  ∃ x28 : Int, w.cell? zero_6 = some (Value.int .i64 x28) /\ ∃ x29 : Int, w.cell? (zero_6.add 1) = some (Value.int .i64 x29) /\ wrOk w t_4 /\ 
  (let w30 := w.setCell t_4 (Value.int .i64 x28)
  wrOk w30 (t_4.add 1) /\ 
  (let w31 := w30.setCell (t_4.add 1) (Value.int .i64 x29)
  ∃ x32 : Int, w31.cell? t_4 = some (Value.int .i64 x32) /\ ∃ x33 : Int, w31.cell? (t_4.add 1) = some (Value.int .i64 x33) /\ K x32 x33 true w31))
structure z11_k0 (t_4 zero_6 : Addr) (K : Pw.T3) (w : World) : Prop where
  out : z11_k0d t_4 zero_6 K w
def z11_k2d (t_4 dual_8 : Addr) (K : Pw.T3) (w : World) : Prop :=
  ∃ x103 : Int, w.cell? dual_8 = some (Value.int .i64 x103) /\ ∃ x104 : Int, w.cell? (dual_8.add 1) = some (Value.int .i64 x104) /\ wrOk w t_4 /\ 
  (let w105 := w.setCell t_4 (Value.int .i64 x103)
  wrOk w105 (t_4.add 1) /\ 
  (let w106 := w105.setCell (t_4.add 1) (Value.int .i64 x104)
  ∃ x107 : Int, w106.cell? t_4 = some (Value.int .i64 x107) /\ ∃ x108 : Int, w106.cell? (t_4.add 1) = some (Value.int .i64 x108) /\ K x107 x108 true w106))
structure z11_k2 (t_4 dual_8 : Addr) (K : Pw.T3) (w : World) : Prop where
  out : z11_k2d t_4 dual_8 K w
def z11_k3d (t_4 zero_6 : Addr) (K : Pw.T3) (w : World) : Prop :=
  ∃ x109 : Int, w.cell? zero_6 = some (Value.int .i64 x109) /\ ∃ x110 : Int, w.cell? (zero_6.add 1) = some (Value.int .i64 x110) /\ wrOk w t_4 /\ 
  (let w111 := w.setCell t_4 (Value.int .i64 x109)
  wrOk w111 (t_4.add 1) /\ 
  (let w112 := w111.setCell (t_4.add 1) (Value.int .i64 x110)
  ∃ x113 : Int, w112.cell? t_4 = some (Value.int .i64 x113) /\ ∃ x114 : Int, w112.cell? (t_4.add 1) = some (Value.int .i64 x114) /\ K x113 x114 false w112))
structure z11_k3 (t_4 zero_6 : Addr) (K : Pw.T3) (w : World) : Prop where
  out : z11_k3d t_4 zero_6 K w
def z11_k1d (s_0 : Option Addr) (f_3 t_4 : Addr) (zero_6 best_7 dual_8 : Addr) (n_9 : Int) (ok_10 : Bool) (K : Pw.T3) (w : World) : Prop :=
  ∃ x85 : Sl, w.cell? best_7 = some (Value.slice x85.p x85.l x85.c) /\ ∃ x86 : Sl, w.cell? (best_7.add 1) = some (Value.slice x86.p x86.l x86.c) /\ ∃ x87 : Sl, w.cell? (best_7.add 2) = some (Value.slice x87.p x87.l x87.c) /\ ∃ x88 : Int, w.cell? (best_7.add 3) = some (Value.int .i64 x88) /\ ∃ x89 : Int, w.cell? (best_7.add 4) = some (Value.int .i64 x89) /\ ∃ x90 : Sl, w.cell? (best_7.add 5) = some (Value.slice x90.p x90.l x90.c) /\ z2r_sh x85 x86 x87 x88 x89 x90 (fun r92 w91 => z0w_sh n_9 r92 (fun r94 w93 => let w95 := w93.drew
  ∃ S96 : World -> Prop, S96 w95 /\ cnd ok_10
    (cnd (decide (r94 < (0 : Int)))
    (z11_k2 t_4 dual_8 K w95)
    (cnd (r94 == (0 : Int))
    (∃ x97 : Sl, (∀ w' : World, S96 w' -> w'.cell? (f_3.add 5) = some (Value.slice x97.p x97.l x97.c)) /\ nz s_0 fun a98 => ∃ x99 : Sl, (∀ w' : World, S96 w' -> w'.cell? a98 = some (Value.slice x99.p x99.l x99.c)) /\ ∃ x100 : Sl, (∀ w' : World, S96 w' -> w'.cell? (f_3.add 5) = some (Value.slice x100.p x100.l x100.c)) /\ (0 <= (0 : Int) /\ (0 : Int) <= (x100.l : Int) /\ (x100.l : Int) <= (x99.c : Nat)) /\ z0i_sh x97 (Sl.mk (subP x99.p 0 x99.c 1) ((x100.l : Int).toNat - 0) (x99.c - 0)) (fun r102 w101 => S96 w101 /\ cnd (decide (r102 > (0 : Int)))
    (z11_k2 t_4 dual_8 K w101)
    (z11_k3 t_4 zero_6 K w101)) w95)
    (z11_k3 t_4 zero_6 K w95)))
    (z11_k3 t_4 zero_6 K w95)) w91) w
structure z11_k1 (s_0 : Option Addr) (f_3 t_4 : Addr) (zero_6 best_7 dual_8 : Addr) (n_9 : Int) (ok_10 : Bool) (K : Pw.T3) (w : World) : Prop where
  out : z11_k1d s_0 f_3 t_4 zero_6 best_7 dual_8 n_9 ok_10 K w
def z11_sd (s_0 : Option Addr) (f_1_0 f_1_1 f_1_2 : Sl) (f_1_3 f_1_4 : Int) (f_1_5 : Sl) (K : Pw.T3) (w : World) : Prop :=
  let w1 := w.alloc (Obj.cells #[(Value.slice f_1_0.p f_1_0.l f_1_0.c), (Value.slice f_1_1.p f_1_1.l f_1_1.c), (Value.slice f_1_2.p f_1_2.l f_1_2.c), (Value.int .i64 f_1_3), (Value.int .i64 f_1_4), (Value.slice f_1_5.p f_1_5.l f_1_5.c)] 75)
  let w2 := w1.alloc (Obj.cells #[(Value.int .i64 0), (Value.int .i64 0)] 44)
  z2u_sh (0 : Int) (fun r4_0 r4_1 w3 => let w5 := w3.alloc (Obj.cells #[(Value.int .i64 0), (Value.int .i64 0)] 44)
  wrOk w5 (Addr.mk w3.heap.size 0 none) /\ 
  (let w6 := w5.setCell (Addr.mk w3.heap.size 0 none) (Value.int .i64 r4_0)
  wrOk w6 (Addr.mk w3.heap.size 1 none) /\ 
  (let w7 := w6.setCell (Addr.mk w3.heap.size 1 none) (Value.int .i64 r4_1)
  let w8 := w7.drew
  ∃ S9 : World -> Prop, S9 w8 /\ ∃ x10 : Sl, (∀ w' : World, S9 w' -> w'.cell? (Addr.mk w.heap.size 0 none) = some (Value.slice x10.p x10.l x10.c)) /\ ∃ x11 : Sl, (∀ w' : World, S9 w' -> w'.cell? (Addr.mk w.heap.size 1 none) = some (Value.slice x11.p x11.l x11.c)) /\ ∃ x12 : Sl, (∀ w' : World, S9 w' -> w'.cell? (Addr.mk w.heap.size 2 none) = some (Value.slice x12.p x12.l x12.c)) /\ ∃ x13 : Int, (∀ w' : World, S9 w' -> w'.cell? (Addr.mk w.heap.size 3 none) = some (Value.int .i64 x13)) /\ ∃ x14 : Int, (∀ w' : World, S9 w' -> w'.cell? (Addr.mk w.heap.size 4 none) = some (Value.int .i64 x14)) /\ ∃ x15 : Sl, (∀ w' : World, S9 w' -> w'.cell? (Addr.mk w.heap.size 5 none) = some (Value.slice x15.p x15.l x15.c)) /\ z1c_sh x10 x11 x12 x13 x14 x15 (fun r17 w16 => S9 w16 /\ cnd r17
    (z11_k0 (Addr.mk w1.heap.size 0 none) (Addr.mk w3.heap.size 0 none) K w16)
    (∃ x18 : Sl, (∀ w' : World, S9 w' -> w'.cell? (Addr.mk w.heap.size 0 none) = some (Value.slice x18.p x18.l x18.c)) /\ ∃ x19 : Sl, (∀ w' : World, S9 w' -> w'.cell? (Addr.mk w.heap.size 1 none) = some (Value.slice x19.p x19.l x19.c)) /\ ∃ x20 : Sl, (∀ w' : World, S9 w' -> w'.cell? (Addr.mk w.heap.size 2 none) = some (Value.slice x20.p x20.l x20.c)) /\ ∃ x21 : Int, (∀ w' : World, S9 w' -> w'.cell? (Addr.mk w.heap.size 3 none) = some (Value.int .i64 x21)) /\ ∃ x22 : Int, (∀ w' : World, S9 w' -> w'.cell? (Addr.mk w.heap.size 4 none) = some (Value.int .i64 x22)) /\ ∃ x23 : Sl, (∀ w' : World, S9 w' -> w'.cell? (Addr.mk w.heap.size 5 none) = some (Value.slice x23.p x23.l x23.c)) /\ nz s_0 fun a24 => ∃ x25 : Int, (∀ w' : World, S9 w' -> w'.cell? (a24.add 8) = some (Value.int .i64 x25)) /\ z2j_sh x18 x19 x20 x21 x22 x23 (fun r27 w26 => S9 w26 /\ cnd (decide (r27 > x25))
    (z11_k0 (Addr.mk w1.heap.size 0 none) (Addr.mk w3.heap.size 0 none) K w26)
    (let w34 := w26.drew
  ∃ S35 : World -> Prop, S35 w34 /\ nz s_0 fun a36 => ∃ x37 : Sl, (∀ w' : World, S35 w' -> w'.cell? (a36.add 4) = some (Value.slice x37.p x37.l x37.c)) /\ ∃ x38 : Sl, (∀ w' : World, S35 w' -> w'.cell? (a36.add 5) = some (Value.slice x38.p x38.l x38.c)) /\ ∃ x39 : Sl, (∀ w' : World, S35 w' -> w'.cell? (a36.add 6) = some (Value.slice x39.p x39.l x39.c)) /\ ∃ x40 : Int, (∀ w' : World, S35 w' -> w'.cell? (a36.add 7) = some (Value.int .i64 x40)) /\ ∃ x41 : Int, (∀ w' : World, S35 w' -> w'.cell? (a36.add 8) = some (Value.int .i64 x41)) /\ nz s_0 fun a42 => ∃ x43 : Sl, (∀ w' : World, S35 w' -> w'.cell? a42 = some (Value.slice x43.p x43.l x43.c)) /\ let w44 := w34.alloc (Obj.cells #[(Value.slice none 0 0), (Value.slice none 0 0), (Value.slice none 0 0), (Value.int .i64 0), (Value.int .i64 0), (Value.slice none 0 0)] 75)
  S35 w44 /\ stN w44 (Addr.mk w34.heap.size 0 none) [(Value.slice x37.p x37.l x37.c), (Value.slice x38.p x38.l x38.c), (Value.slice x39.p x39.l x39.c), (Value.int .i64 x40), (Value.int .i64 x41), (Value.slice x43.p x43.l x43.c)] fun w45 => let w46 := w45.drew
  ∃ S47 : World -> Prop, S47 w46 /\ ∃ x48 : Sl, (∀ w' : World, S47 w' -> w'.cell? (Addr.mk w.heap.size 0 none) = some (Value.slice x48.p x48.l x48.c)) /\ ∃ x49 : Sl, (∀ w' : World, S47 w' -> w'.cell? (Addr.mk w.heap.size 1 none) = some (Value.slice x49.p x49.l x49.c)) /\ ∃ x50 : Sl, (∀ w' : World, S47 w' -> w'.cell? (Addr.mk w.heap.size 2 none) = some (Value.slice x50.p x50.l x50.c)) /\ ∃ x51 : Int, (∀ w' : World, S47 w' -> w'.cell? (Addr.mk w.heap.size 3 none) = some (Value.int .i64 x51)) /\ ∃ x52 : Int, (∀ w' : World, S47 w' -> w'.cell? (Addr.mk w.heap.size 4 none) = some (Value.int .i64 x52)) /\ ∃ x53 : Sl, (∀ w' : World, S47 w' -> w'.cell? (Addr.mk w.heap.size 5 none) = some (Value.slice x53.p x53.l x53.c)) /\ ∃ x54 : Sl, (∀ w' : World, S47 w' -> w'.cell? (Addr.mk w.heap.size 0 none) = some (Value.slice x54.p x54.l x54.c)) /\ ∃ x55 : Sl, (∀ w' : World, S47 w' -> w'.cell? (Addr.mk w.heap.size 1 none) = some (Value.slice x55.p x55.l x55.c)) /\ ∃ x56 : Sl, (∀ w' : World, S47 w' -> w'.cell? (Addr.mk w.heap.size 2 none) = some (Value.slice x56.p x56.l x56.c)) /\ ∃ x57 : Int, (∀ w' : World, S47 w' -> w'.cell? (Addr.mk w.heap.size 3 none) = some (Value.int .i64 x57)) /\ ∃ x58 : Int, (∀ w' : World, S47 w' -> w'.cell? (Addr.mk w.heap.size 4 none) = some (Value.int .i64 x58)) /\ ∃ x59 : Sl, (∀ w' : World, S47 w' -> w'.cell? (Addr.mk w.heap.size 5 none) = some (Value.slice x59.p x59.l x59.c)) /\ (z2d_sh x48 x49 x50 x51 x52 x53 (fun r61 w60 => S47 w60 /\ (z15_sh r61 (Value.func (.func 83) #[(Value.agg #[(Value.slice x54.p x54.l x54.c), (Value.slice x55.p x55.l x55.c), (Value.slice x56.p x56.l x56.c), (Value.int .i64 x57), (Value.int .i64 x58), (Value.slice x59.p x59.l x59.c)])] #[]) (fun r63_0 r63_1 r64 r65 w62 => S47 w62 /\ let w66 := w62.alloc (Obj.cells #[(Value.int .i64 0), (Value.int .i64 0)] 44)
  S47 w66 /\ wrOk w66 (Addr.mk w62.heap.size 0 none) /\ 
  (let w67 := w66.setCell (Addr.mk w62.heap.size 0 none) (Value.int .i64 r63_0)
  wrOk w67 (Addr.mk w62.heap.size 1 none) /\ 
  (let w68 := w67.setCell (Addr.mk w62.heap.size 1 none) (Value.int .i64 r63_1)
  z11_k1 s_0 (Addr.mk w.heap.size 0 none) (Addr.mk w1.heap.size 0 none) (Addr.mk w3.heap.size 0 none) (Addr.mk w34.heap.size 0 none) (Addr.mk w62.heap.size 0 none) r64 r65 K w68))) w60)
    /\ (let w69 := w60.alloc (Obj.cells #[(Value.int .i64 0), (Value.int .i64 0)] 44)
  S47 w69 /\ z15_sh r61 (Value.func (.func 83) #[(Value.agg #[(Value.slice x54.p x54.l x54.c), (Value.slice x55.p x55.l x55.c), (Value.slice x56.p x56.l x56.c), (Value.int .i64 x57), (Value.int .i64 x58), (Value.slice x59.p x59.l x59.c)])] #[]) (fun r71_0 r71_1 r72 r73 w70 => S47 w70 /\ wrOk w70 (Addr.mk w60.heap.size 0 none) /\ 
  (let w74 := w70.setCell (Addr.mk w60.heap.size 0 none) (Value.int .i64 r71_0)
  wrOk w74 (Addr.mk w60.heap.size 1 none) /\ 
  (let w75 := w74.setCell (Addr.mk w60.heap.size 1 none) (Value.int .i64 r71_1)
  z11_k1 s_0 (Addr.mk w.heap.size 0 none) (Addr.mk w1.heap.size 0 none) (Addr.mk w3.heap.size 0 none) (Addr.mk w34.heap.size 0 none) (Addr.mk w60.heap.size 0 none) r72 r73 K w75))) w69)) w46)
    /\ (let w76 := w46.alloc (Obj.cells #[(Value.int .i64 0), (Value.int .i64 0)] 44)
  S47 w76 /\ z2d_sh x48 x49 x50 x51 x52 x53 (fun r78 w77 => S47 w77 /\ z15_sh r78 (Value.func (.func 83) #[(Value.agg #[(Value.slice x54.p x54.l x54.c), (Value.slice x55.p x55.l x55.c), (Value.slice x56.p x56.l x56.c), (Value.int .i64 x57), (Value.int .i64 x58), (Value.slice x59.p x59.l x59.c)])] #[]) (fun r80_0 r80_1 r81 r82 w79 => S47 w79 /\ wrOk w79 (Addr.mk w46.heap.size 0 none) /\ 
  (let w83 := w79.setCell (Addr.mk w46.heap.size 0 none) (Value.int .i64 r80_0)
  wrOk w83 (Addr.mk w46.heap.size 1 none) /\ 
  (let w84 := w83.setCell (Addr.mk w46.heap.size 1 none) (Value.int .i64 r80_1)
  z11_k1 s_0 (Addr.mk w.heap.size 0 none) (Addr.mk w1.heap.size 0 none) (Addr.mk w3.heap.size 0 none) (Addr.mk w34.heap.size 0 none) (Addr.mk w46.heap.size 0 none) r81 r82 K w84))) w77) w76))) w16)) w8))) w2
structure z11_sh (s_0 : Option Addr) (f_1_0 f_1_1 f_1_2 : Sl) (f_1_3 f_1_4 : Int) (f_1_5 : Sl) (K : Pw.T3) (w : World) : Prop where
  out : z11_sd s_0 f_1_0 f_1_1 f_1_2 f_1_3 f_1_4 f_1_5 K w
def z11_P0 (Kv : VW) (ρ : Rho) (vs : List Value) (w : World) : Prop :=
  match ρ, vs with
  | _, [.pointer (some t_4), .pointer (some zero_6)] => z11_k0 t_4 zero_6 (Pw.kR Kv) w
  | _, _ => False
def z11_P1 (Kv : VW) (ρ : Rho) (vs : List Value) (w : World) : Prop :=
  match ρ, vs with
  | _, [.pointer s_0, .pointer (some f_3), .pointer (some t_4), .pointer (some zero_6), .pointer (some best_7), .pointer (some dual_8), .int .i64 n_9, .bool ok_10] => z11_k1 s_0 f_3 t_4 zero_6 best_7 dual_8 n_9 ok_10 (Pw.kR Kv) w
  | _, _ => False
def z11_P2 (Kv : VW) (ρ : Rho) (vs : List Value) (w : World) : Prop :=
  match ρ, vs with
  | _, [.pointer (some t_4), .pointer (some dual_8)] => z11_k2 t_4 dual_8 (Pw.kR Kv) w
  | _, _ => False
def z11_P3 (Kv : VW) (ρ : Rho) (vs : List Value) (w : World) : Prop :=
  match ρ, vs with
  | _, [.pointer (some t_4), .pointer (some zero_6)] => z11_k3 t_4 zero_6 (Pw.kR Kv) w
  | _, _ => False
noncomputable def z11_S : Pw.Spec := fun vs w Kv =>
  match vs with
  | [.pointer s_0, .agg ⟨[.slice f_1_0p f_1_0l f_1_0c, .slice f_1_1p f_1_1l f_1_1c, .slice f_1_2p f_1_2l f_1_2c, .int .i64 f_1_3, .int .i64 f_1_4, .slice f_1_5p f_1_5l f_1_5c]⟩] => z11_sh s_0 ⟨f_1_0p, f_1_0l, f_1_0c⟩ ⟨f_1_1p, f_1_1l, f_1_1c⟩ ⟨f_1_2p, f_1_2l, f_1_2c⟩ f_1_3 f_1_4 ⟨f_1_5p, f_1_5l, f_1_5c⟩ (Pw.kR Kv) w
  | _ => False
noncomputable def z11_E : Pw.Env := [(45, z2j_S), (56, z2u_S), (66, z1c_S), (68, z0w_S), (69, z2r_S), (70, z0i_S), (81, z15_S), (82, z2d_S)]
noncomputable def z11_C : Code := (Tryz.f57.body).getD .skip
noncomputable def z11_A (Kv : VW) : Pw.A :=
  (A.seq (A.reg (Pw.rn 3 RA.done))
   (A.seq (A.reg (Pw.rn 3 RA.done))
   (A.seq (A.seq (A.drw (DA.pur 0 (DA.eff 1 (DA.pur 2 (DA.spl 15 (DA.skp 3 (DA.skp 5 (DA.skp 6 (DA.skp 7 (DA.skp 8 (DA.skp 9 (DA.skp 4 (DA.skp 10 (DA.pur 11 DA.done))))))))) (DA.pur 3 (DA.pur 5 (DA.pur 6 (DA.pur 7 (DA.pur 8 (DA.pur 9 (DA.eff 4 (DA.pur 10 (DA.pur 11 DA.done))))))))))))))
   (A.cond (A.cut [4, 6] (z11_P0 Kv) (A.seq (A.reg (Pw.rn 3 RA.done))
   A.leaf))
   A.leaf))
   (A.seq (A.drw (DA.pur 0 (DA.pur 1 (DA.pur 2 (DA.pur 3 (DA.pur 4 (DA.pur 5 (DA.pur 6 (DA.pur 7 (DA.pur 8 (DA.pur 9 (DA.eff 10 (DA.eff 11 DA.done)))))))))))))
   (A.seq (A.drw (DA.pur 0 (DA.pur 2 (DA.pur 3 (DA.two 1 (DA.two 4 (DA.pur 5 (DA.pur 6 (DA.pur 7 (DA.pur 8 (DA.eff 9 (DA.eff 10 (DA.pur 11 (DA.pur 12 DA.done)))))))) 9 (DA.eff 4 (DA.pur 5 (DA.pur 6 (DA.pur 7 (DA.pur 8 (DA.eff 10 (DA.pur 11 (DA.pur 12 DA.done))))))))) 9 (DA.eff 1 (DA.eff 4 (DA.pur 5 (DA.pur 6 (DA.pur 7 (DA.pur 8 (DA.eff 10 (DA.pur 11 (DA.pur 12 DA.done))))))))))))))
   (A.cut [0, 3, 4, 6, 7, 8, 9, 10] (z11_P1 Kv) (A.seq (A.seq (A.reg (Pw.rn 5 RA.done))
   (A.seq (A.drw (DA.pur 0 (DA.pur 1 (DA.spl 50 (DA.pur 2 (DA.pur 3 (DA.pur 4 (DA.spl 53 (DA.skp 5 (DA.skp 6 (DA.skp 7 (DA.skp 8 (DA.skp 9 (DA.skp 10 (DA.skp 11 (DA.skp 12 (DA.skp 13 (DA.skp 14 (DA.skp 15 (DA.skp 16 (DA.skp 17 (DA.skp 18 (DA.skp 19 (DA.skp 20 (DA.skp 21 (DA.pur 22 (DA.pur 23 DA.done))))))))))))))))))) (DA.pur 5 (DA.pur 6 (DA.pur 7 (DA.spl 56 (DA.pur 8 (DA.pur 9 (DA.pur 10 (DA.pur 11 (DA.pur 12 (DA.pur 13 (DA.pur 14 (DA.pur 15 (DA.pur 16 (DA.pur 17 (DA.pur 18 (DA.eff 19 (DA.pur 20 (DA.pur 21 (DA.pur 22 (DA.pur 23 DA.done)))))))))))))))) (DA.skp 8 (DA.skp 9 (DA.skp 10 (DA.skp 11 (DA.skp 12 (DA.skp 13 (DA.skp 14 (DA.skp 15 (DA.skp 16 (DA.skp 17 (DA.skp 18 (DA.skp 19 (DA.skp 20 (DA.pur 21 (DA.pur 22 (DA.pur 23 DA.done)))))))))))))))))))))))) (DA.skp 2 (DA.skp 3 (DA.skp 4 (DA.skp 5 (DA.skp 6 (DA.skp 7 (DA.skp 8 (DA.skp 9 (DA.skp 10 (DA.skp 11 (DA.skp 12 (DA.skp 13 (DA.skp 14 (DA.skp 15 (DA.skp 16 (DA.skp 17 (DA.skp 18 (DA.skp 19 (DA.skp 20 (DA.skp 21 (DA.skp 22 (DA.pur 23 DA.done))))))))))))))))))))))))))
   (A.cond (A.cut [4, 8] (z11_P2 Kv) (A.seq (A.reg (Pw.rn 3 RA.done))
   A.leaf))
   A.leaf)))
   (A.cut [4, 6] (z11_P3 Kv) (A.seq (A.reg (Pw.rn 3 RA.done))
   A.leaf)))))))))
noncomputable def z11_O (Kv : VW) : List Ob := (obs Tryz.prog z11_E 75 (z11_A Kv) z11_C (fun _ => retQ Tryz.prog Tryz.f57.results Kv))
theorem z11_e (Kv : VW) (s_0 f_1_0p : Option Addr) (f_1_0l f_1_0c : Nat) (f_1_1p : Option Addr) (f_1_1l f_1_1c : Nat) (f_1_2p : Option Addr) (f_1_2l f_1_2c : Nat) (f_1_3 f_1_4 : Int) (f_1_5p : Option Addr) (f_1_5l f_1_5c : Nat) (w : World) : z11_sd s_0 ⟨f_1_0p, f_1_0l, f_1_0c⟩ ⟨f_1_1p, f_1_1l, f_1_1c⟩ ⟨f_1_2p, f_1_2l, f_1_2c⟩ f_1_3 f_1_4 ⟨f_1_5p, f_1_5l, f_1_5c⟩ (Pw.kR Kv) w = W Tryz.prog z11_E 75 (z11_A Kv) z11_C [] (retQ Tryz.prog Tryz.f57.results Kv) [] (startS [(Value.pointer s_0), (Value.agg #[(Value.slice f_1_0p f_1_0l f_1_0c), (Value.slice f_1_1p f_1_1l f_1_1c), (Value.slice f_1_2p f_1_2l f_1_2c), (Value.int .i64 f_1_3), (Value.int .i64 f_1_4), (Value.slice f_1_5p f_1_5l f_1_5c)])]) w := by kernel_rfl
theorem z11_e0 (Kv : VW) (ρ : Rho) (t_4 zero_6 : Addr) (w : World) : z11_k0d t_4 zero_6 (Pw.kR Kv) w = goalAt Tryz.prog z11_E 75 (z11_O Kv) 0 (ρ) [(Value.pointer (some t_4)), (Value.pointer (some zero_6))] w := by kernel_rfl
theorem z11_q0 (Kv : VW) (ρ : Rho) (vs : List Value) (w : World) : labAt (z11_O Kv) 0 ρ vs w = z11_P0 Kv ρ vs w := by kernel_rfl
theorem z11_h0 (Kv : VW) : holdsAt Tryz.prog z11_E 75 (z11_O Kv) 0 := holdsAt_cut (.inl (by kernel_rfl)) (fun ρ vs w h => by
  rw [z11_q0] at h
  unfold z11_P0 at h
  split at h
  . rw [← z11_e0]; exact h.out
  . exact h.elim)
theorem z11_e1 (Kv : VW) (ρ : Rho) (s_0 : Option Addr) (f_3 t_4 : Addr) (zero_6 best_7 dual_8 : Addr) (n_9 : Int) (ok_10 : Bool) (w : World) : z11_k1d s_0 f_3 t_4 zero_6 best_7 dual_8 n_9 ok_10 (Pw.kR Kv) w = goalAt Tryz.prog z11_E 75 (z11_O Kv) 1 (ρ) [(Value.pointer s_0), (Value.pointer (some f_3)), (Value.pointer (some t_4)), (Value.pointer (some zero_6)), (Value.pointer (some best_7)), (Value.pointer (some dual_8)), (Value.int .i64 n_9), (Value.bool ok_10)] w := by kernel_rfl
theorem z11_q1 (Kv : VW) (ρ : Rho) (vs : List Value) (w : World) : labAt (z11_O Kv) 1 ρ vs w = z11_P1 Kv ρ vs w := by kernel_rfl
theorem z11_h1 (Kv : VW) : holdsAt Tryz.prog z11_E 75 (z11_O Kv) 1 := holdsAt_cut (.inl (by kernel_rfl)) (fun ρ vs w h => by
  rw [z11_q1] at h
  unfold z11_P1 at h
  split at h
  . rw [← z11_e1]; exact h.out
  . exact h.elim)
theorem z11_e2 (Kv : VW) (ρ : Rho) (t_4 dual_8 : Addr) (w : World) : z11_k2d t_4 dual_8 (Pw.kR Kv) w = goalAt Tryz.prog z11_E 75 (z11_O Kv) 2 (ρ) [(Value.pointer (some t_4)), (Value.pointer (some dual_8))] w := by kernel_rfl
theorem z11_q2 (Kv : VW) (ρ : Rho) (vs : List Value) (w : World) : labAt (z11_O Kv) 2 ρ vs w = z11_P2 Kv ρ vs w := by kernel_rfl
theorem z11_h2 (Kv : VW) : holdsAt Tryz.prog z11_E 75 (z11_O Kv) 2 := holdsAt_cut (.inl (by kernel_rfl)) (fun ρ vs w h => by
  rw [z11_q2] at h
  unfold z11_P2 at h
  split at h
  . rw [← z11_e2]; exact h.out
  . exact h.elim)
theorem z11_e3 (Kv : VW) (ρ : Rho) (t_4 zero_6 : Addr) (w : World) : z11_k3d t_4 zero_6 (Pw.kR Kv) w = goalAt Tryz.prog z11_E 75 (z11_O Kv) 3 (ρ) [(Value.pointer (some t_4)), (Value.pointer (some zero_6))] w := by kernel_rfl
theorem z11_q3 (Kv : VW) (ρ : Rho) (vs : List Value) (w : World) : labAt (z11_O Kv) 3 ρ vs w = z11_P3 Kv ρ vs w := by kernel_rfl
theorem z11_h3 (Kv : VW) : holdsAt Tryz.prog z11_E 75 (z11_O Kv) 3 := holdsAt_cut (.inl (by kernel_rfl)) (fun ρ vs w h => by
  rw [z11_q3] at h
  unfold z11_P3 at h
  split at h
  . rw [← z11_e3]; exact h.out
  . exact h.elim)
theorem z11_n (Kv : VW) : obAt (z11_O Kv) 4 = none := by kernel_rfl
theorem z11_h (Kv : VW) : ∀ k, holdsAt Tryz.prog z11_E 75 (z11_O Kv) k := fun k => match k with
  | 0 => z11_h0 Kv
  | 1 => z11_h1 Kv
  | 2 => z11_h2 Kv
  | 3 => z11_h3 Kv
  | _k + 4 => holdsAt_ge (z11_n Kv) (Nat.le_add_left _ _)
theorem z11_ok : Sound Tryz.prog 57 z11_S := ⟨Tryz.call57, fun vs w Kv h => by
  unfold z11_S at h
  split at h
  . have h := h.out
    rw [z11_e] at h
    exact calls_sound (Γ := z11_E) progMixed ⟨.inl z2j_ok, .inl z2u_ok, .inl z1c_ok, .inl z0w_ok, .inl z2r_ok, .inl z0i_ok, .inl z15_ok, .inl z2d_ok, trivial⟩ Tryz.func57 (code := z11_C) (by kernel_rfl) (z11_A Kv) Kv (holds_all (z11_h Kv)) (Nat.le_of_ble_eq_true (by kernel_rfl)) h
  . exact h.elim⟩
/-! Cs_options -/
def z16_b0 (s_0 : Option Addr) (k_1 : Int) (out_5 t_13 : Sl) (t_14 t_15 : Int) (N0 : Option Addr -> Int -> Sl -> Sl -> Int -> Int -> World -> Prop) (K : Pw.T4) (w : World) : Prop :=
  cnd (decide (t_15 < t_14))
    (nz t_13.p fun a4 => (0 <= t_15 /\ t_15 < (t_13.l : Nat)) /\ ∃ x5 : Int, w.cell? (a4.add (t_15.toNat * 4)) = some (Value.int .i64 x5) /\ ∃ x6 : Int, w.cell? ((a4.add (t_15.toNat * 4)).add 1) = some (Value.int .i64 x6) /\ ∃ x7 : Int, w.cell? ((a4.add (t_15.toNat * 4)).add 2) = some (Value.int .i64 x7) /\ ∃ x8 : Int, w.cell? ((a4.add (t_15.toNat * 4)).add 3) = some (Value.int .i64 x8) /\ let w9 := w.alloc (Obj.cells #[(Value.int .i64 0), (Value.int .i64 0), (Value.int .i64 0), (Value.int .i64 0)] 65)
  stN w9 (Addr.mk w.heap.size 0 none) [(Value.int .i64 x5), (Value.int .i64 x6), (Value.int .i64 x7), (Value.int .i64 x8)] fun w10 => let w11 := w10.drew
  ∃ x12 : Int, w11.cell? (Addr.mk w.heap.size 0 none) = some (Value.int .i64 x12) /\ nz s_0 fun a13 => ∃ x14 : Sl, w11.cell? (a13.add 4) = some (Value.slice x14.p x14.l x14.c) /\ nz x14.p fun a15 => (0 <= k_1 /\ k_1 < (x14.l : Nat)) /\ ∃ x16 : Int, w11.cell? (a15.add (k_1.toNat * 1)) = some (Value.int .i64 x16) /\ cnd (x12 == x16)
    (let w17 := w11.alloc (Obj.cells #[(Value.int .i64 t_15)] 3)
  apS 1 8 [(Value.int .i64 0)] 3 out_5 (Sl.mk (some (Addr.mk w11.heap.size 0 none)) 1 1) w17 fun s18 w19 => inR .i64 (t_15 + (1 : Int)) /\ N0 s_0 k_1 s18 t_13 t_14 (t_15 + (1 : Int)) w19)
    (inR .i64 (t_15 + (1 : Int)) /\ N0 s_0 k_1 out_5 t_13 t_14 (t_15 + (1 : Int)) w11))
    (K out_5 w)
def z16_l0d (s_0 : Option Addr) (k_1 : Int) (out_5 t_13 : Sl) (t_14 t_15 : Int) (K : Pw.T4) (w : World) : Prop :=
  ∃ (I : Sl -> Int -> World -> Prop) (μ : Sl -> Int -> World -> Nat), I out_5 t_15 w /\ ∀ (out_51 : Sl) (t_151 : Int) (w1 : World), I out_51 t_151 w1 ->
    z16_b0 s_0 k_1 out_51 t_13 t_14 t_151 (fun s_0' k_1' out_5' t_13' t_14' t_15' w' => ((s_0' = s_0 /\ k_1' = k_1 /\ t_13' = t_13 /\ t_14' = t_14 /\ True) /\ I out_5' t_15' w') /\ μ out_5' t_15' w' < μ out_51 t_151 w1) K w1
structure z16_l0 (s_0 : Option Addr) (k_1 : Int) (out_5 t_13 : Sl) (t_14 t_15 : Int) (K : Pw.T4) (w : World) : Prop where
  out : z16_l0d s_0 k_1 out_5 t_13 t_14 t_15 K w
def z16_sd (s_0 : Option Addr) (k_1 : Int) (K : Pw.T4) (w : World) : Prop :=
  let w1 := w.alloc (Obj.cells #[(Value.int .i64 (-1))] 3)
  nz s_0 fun a2 => ∃ x3 : Sl, w1.cell? (a2.add 5) = some (Value.slice x3.p x3.l x3.c) /\ z16_l0 s_0 k_1 (Sl.mk (some (Addr.mk w.heap.size 0 none)) 1 1) x3 (x3.l : Int) (0 : Int) K w1
structure z16_sh (s_0 : Option Addr) (k_1 : Int) (K : Pw.T4) (w : World) : Prop where
  out : z16_sd s_0 k_1 K w
def z16_P0 (Kv : VW) (ρ : Rho) (vs : List Value) (w : World) : Prop :=
  match ρ, vs with
  | _, [.pointer s_0, .int .i64 k_1, .slice out_5p out_5l out_5c, .slice t_13p t_13l t_13c, .int .i64 t_14, .int .i64 t_15] => z16_l0 s_0 k_1 ⟨out_5p, out_5l, out_5c⟩ ⟨t_13p, t_13l, t_13c⟩ t_14 t_15 (Pw.kS Kv) w
  | _, _ => False
noncomputable def z16_S : Pw.Spec := fun vs w Kv =>
  match vs with
  | [.pointer s_0, .int .i64 k_1] => z16_sh s_0 k_1 (Pw.kS Kv) w
  | _ => False
noncomputable def z16_E : Pw.Env := []
noncomputable def z16_C : Code := (Tryz.f33.body).getD .skip
noncomputable def z16_A (Kv : VW) : Pw.A :=
  (A.seq (A.reg (RA.run RA.done))
   (A.seq (A.reg (Pw.rn 2 RA.done))
   (A.seq (A.seq (A.reg (Pw.rn 7 RA.done))
   (A.blk (A.loop [0, 1, 5, 13, 14, 15] (z16_P0 Kv) (A.seq (A.reg (RA.run RA.done))
   (A.seq (A.cond A.leaf
   A.leaf)
   (A.seq (A.blk (A.seq (A.reg (Pw.rn 6 RA.done))
   (A.seq (A.drp (DA.pur 0 (DA.pur 1 (DA.pur 2 (DA.pur 3 (DA.pur 4 (DA.pur 5 (DA.pur 6 (DA.pur 7 (DA.pur 8 (DA.pur 9 (DA.pur 10 DA.done))))))))))))
   (A.cond (A.reg (Pw.rn 5 RA.done))
   A.leaf))))
   (A.reg (Pw.rn 2 RA.done))))))))
   (A.seq (A.reg (Pw.rn 2 RA.done))
   A.leaf))))
noncomputable def z16_O (Kv : VW) : List Ob := (obs Tryz.prog z16_E 37 (z16_A Kv) z16_C (fun _ => retQ Tryz.prog Tryz.f33.results Kv))
theorem z16_e (Kv : VW) (s_0 : Option Addr) (k_1 : Int) (w : World) : z16_sd s_0 k_1 (Pw.kS Kv) w = W Tryz.prog z16_E 37 (z16_A Kv) z16_C [] (retQ Tryz.prog Tryz.f33.results Kv) [] (startS [(Value.pointer s_0), (Value.int .i64 k_1)]) w := by kernel_rfl
theorem z16_e0 (Kv : VW) (N0 : List Value -> World -> Prop) (ρ : Rho) (s_0 : Option Addr) (k_1 : Int) (out_5p : Option Addr) (out_5l out_5c : Nat) (t_13p : Option Addr) (t_13l t_13c : Nat) (t_14 t_15 : Int) (w : World) : z16_b0 s_0 k_1 ⟨out_5p, out_5l, out_5c⟩ ⟨t_13p, t_13l, t_13c⟩ t_14 t_15 (fun s_0' k_1' out_5' t_13' t_14' t_15' w' => N0 [(Value.pointer s_0'), (Value.int .i64 k_1'), (Value.slice out_5'.p out_5'.l out_5'.c), (Value.slice t_13'.p t_13'.l t_13'.c), (Value.int .i64 t_14'), (Value.int .i64 t_15')] w') (Pw.kS Kv) w = goalAt Tryz.prog z16_E 37 (z16_O Kv) 0 (N0 :: ρ) [(Value.pointer s_0), (Value.int .i64 k_1), (Value.slice out_5p out_5l out_5c), (Value.slice t_13p t_13l t_13c), (Value.int .i64 t_14), (Value.int .i64 t_15)] w := by kernel_rfl
theorem z16_q0 (Kv : VW) (ρ : Rho) (vs : List Value) (w : World) : labAt (z16_O Kv) 0 ρ vs w = z16_P0 Kv ρ vs w := by kernel_rfl
def z16_I0 (s_00 : Option Addr) (k_10 : Int) (t_130 : Sl) (t_140 : Int) (I : Sl -> Int -> World -> Prop) (vs : List Value) (w : World) : Prop :=
  match vs with
  | [.pointer s_0, .int .i64 k_1, .slice out_5p out_5l out_5c, .slice t_13p t_13l t_13c, .int .i64 t_14, .int .i64 t_15] => (s_0 = s_00 /\ k_1 = k_10 /\ ⟨t_13p, t_13l, t_13c⟩ = t_130 /\ t_14 = t_140 /\ True) /\ I ⟨out_5p, out_5l, out_5c⟩ t_15 w
  | _ => False
def z16_M0 (μ : Sl -> Int -> World -> Nat) (vs : List Value) (w : World) : Nat :=
  match vs with
  | [.pointer _s_0, .int .i64 _k_1, .slice out_5p out_5l out_5c, .slice _t_13p _t_13l _t_13c, .int .i64 _t_14, .int .i64 t_15] => μ ⟨out_5p, out_5l, out_5c⟩ t_15 w
  | _ => 0
theorem z16_h0 (Kv : VW) : holdsAt Tryz.prog z16_E 37 (z16_O Kv) 0 := holdsAt_loop (by kernel_rfl) (fun ρ vs w h => by
  rw [z16_q0] at h
  unfold z16_P0 at h
  split at h
  . rename_i ρt s_0 k_1 out_5p out_5l out_5c t_13p t_13l t_13c t_14 t_15
    obtain ⟨I, μ, h0, hr⟩ := h.out
    refine ⟨z16_I0 s_0 k_1 ⟨t_13p, t_13l, t_13c⟩ t_14 I, z16_M0 μ, ⟨⟨rfl, rfl, rfl, rfl, trivial⟩, h0⟩, fun vs w hI => ?_⟩
    unfold z16_I0 at hI
    split at hI
    . obtain ⟨⟨h0, h1, h2, h3, _⟩, hI⟩ := hI
      cases h0; cases h1; cases h2; cases h3
      rw [← z16_e0]
      exact hr _ _ _ hI
    . exact hI.elim
  . exact h.elim)
theorem z16_n (Kv : VW) : obAt (z16_O Kv) 1 = none := by kernel_rfl
theorem z16_h (Kv : VW) : ∀ k, holdsAt Tryz.prog z16_E 37 (z16_O Kv) k := fun k => match k with
  | 0 => z16_h0 Kv
  | _k + 1 => holdsAt_ge (z16_n Kv) (Nat.le_add_left _ _)
theorem z16_ok : Sound Tryz.prog 33 z16_S := ⟨Tryz.call33, fun vs w Kv h => by
  unfold z16_S at h
  split at h
  . have h := h.out
    rw [z16_e] at h
    exact calls_sound (Γ := z16_E) progMixed trivial Tryz.func33 (code := z16_C) (by kernel_rfl) (z16_A Kv) Kv (holds_all (z16_h Kv)) (Nat.le_of_ble_eq_true (by kernel_rfl)) h
  . exact h.elim⟩
/-! Cb_Paid -/
def z35_sd (p_0_0 p_0_1 p_0_2 : Sl) (p_0_3 p_0_4 : Int) (take_1 : Sl) (K : Pw.T5) (w : World) : Prop :=
  let w1 := w.alloc (Obj.cells #[(Value.slice p_0_0.p p_0_0.l p_0_0.c), (Value.slice p_0_1.p p_0_1.l p_0_1.c), (Value.slice p_0_2.p p_0_2.l p_0_2.c), (Value.int .i64 p_0_3), (Value.int .i64 p_0_4)] 27)
  ∃ x2 : Sl, w1.cell? (Addr.mk w.heap.size 0 none) = some (Value.slice x2.p x2.l x2.c) /\ ∃ x3 : Sl, w1.cell? (Addr.mk w.heap.size 1 none) = some (Value.slice x3.p x3.l x3.c) /\ ∃ x4 : Sl, w1.cell? (Addr.mk w.heap.size 2 none) = some (Value.slice x4.p x4.l x4.c) /\ ∃ x5 : Int, w1.cell? (Addr.mk w.heap.size 3 none) = some (Value.int .i64 x5) /\ ∃ x6 : Int, w1.cell? (Addr.mk w.heap.size 4 none) = some (Value.int .i64 x6) /\ let w7 := w1.alloc (Obj.cells #[(Value.slice none 0 0), (Value.slice none 0 0), (Value.slice none 0 0), (Value.int .i64 0), (Value.int .i64 0), (Value.slice none 0 0)] 75)
  stN w7 (Addr.mk w1.heap.size 0 none) [(Value.slice x2.p x2.l x2.c), (Value.slice x3.p x3.l x3.c), (Value.slice x4.p x4.l x4.c), (Value.int .i64 x5), (Value.int .i64 x6), (Value.slice take_1.p take_1.l take_1.c)] fun w8 => ∃ x9 : Sl, w8.cell? (Addr.mk w.heap.size 0 none) = some (Value.slice x9.p x9.l x9.c) /\ ∃ x10 : Sl, w8.cell? (Addr.mk w.heap.size 1 none) = some (Value.slice x10.p x10.l x10.c) /\ ∃ x11 : Sl, w8.cell? (Addr.mk w.heap.size 2 none) = some (Value.slice x11.p x11.l x11.c) /\ ∃ x12 : Int, w8.cell? (Addr.mk w.heap.size 3 none) = some (Value.int .i64 x12) /\ ∃ x13 : Int, w8.cell? (Addr.mk w.heap.size 4 none) = some (Value.int .i64 x13) /\ z2g_sh x9 x10 x11 x12 x13 (fun r15 w14 => cnd (!r15)
    (K (0 : Int) false w14)
    (∃ x16 : Sl, w14.cell? (Addr.mk w1.heap.size 0 none) = some (Value.slice x16.p x16.l x16.c) /\ ∃ x17 : Sl, w14.cell? (Addr.mk w1.heap.size 1 none) = some (Value.slice x17.p x17.l x17.c) /\ ∃ x18 : Sl, w14.cell? (Addr.mk w1.heap.size 2 none) = some (Value.slice x18.p x18.l x18.c) /\ ∃ x19 : Int, w14.cell? (Addr.mk w1.heap.size 3 none) = some (Value.int .i64 x19) /\ ∃ x20 : Int, w14.cell? (Addr.mk w1.heap.size 4 none) = some (Value.int .i64 x20) /\ ∃ x21 : Sl, w14.cell? (Addr.mk w1.heap.size 5 none) = some (Value.slice x21.p x21.l x21.c) /\ z31_sh x16 x17 x18 x19 x20 x21 (fun r23 w22 => cnd (!r23)
    (K (0 : Int) false w22)
    (∃ x24 : Sl, w22.cell? (Addr.mk w1.heap.size 0 none) = some (Value.slice x24.p x24.l x24.c) /\ ∃ x25 : Sl, w22.cell? (Addr.mk w1.heap.size 1 none) = some (Value.slice x25.p x25.l x25.c) /\ ∃ x26 : Sl, w22.cell? (Addr.mk w1.heap.size 2 none) = some (Value.slice x26.p x26.l x26.c) /\ ∃ x27 : Int, w22.cell? (Addr.mk w1.heap.size 3 none) = some (Value.int .i64 x27) /\ ∃ x28 : Int, w22.cell? (Addr.mk w1.heap.size 4 none) = some (Value.int .i64 x28) /\ ∃ x29 : Sl, w22.cell? (Addr.mk w1.heap.size 5 none) = some (Value.slice x29.p x29.l x29.c) /\ z2j_sh x24 x25 x26 x27 x28 x29 (fun r31 w30 => K r31 true w30) w22)) w14)) w8
structure z35_sh (p_0_0 p_0_1 p_0_2 : Sl) (p_0_3 p_0_4 : Int) (take_1 : Sl) (K : Pw.T5) (w : World) : Prop where
  out : z35_sd p_0_0 p_0_1 p_0_2 p_0_3 p_0_4 take_1 K w
noncomputable def z35_S : Pw.Spec := fun vs w Kv =>
  match vs with
  | [.agg ⟨[.slice p_0_0p p_0_0l p_0_0c, .slice p_0_1p p_0_1l p_0_1c, .slice p_0_2p p_0_2l p_0_2c, .int .i64 p_0_3, .int .i64 p_0_4]⟩, .slice take_1p take_1l take_1c] => z35_sh ⟨p_0_0p, p_0_0l, p_0_0c⟩ ⟨p_0_1p, p_0_1l, p_0_1c⟩ ⟨p_0_2p, p_0_2l, p_0_2c⟩ p_0_3 p_0_4 ⟨take_1p, take_1l, take_1c⟩ (Pw.kJ Kv) w
  | _ => False
noncomputable def z35_E : Pw.Env := [(28, z2g_S), (44, z31_S), (45, z2j_S)]
noncomputable def z35_C : Code := (Tryz.f22.body).getD .skip
noncomputable def z35_A (_Kv : VW) : Pw.A :=
  (A.seq (A.reg (Pw.rn 3 RA.done))
   (A.seq (A.reg (Pw.rn 5 RA.done))
   (A.seq (A.seq (A.reg (Pw.rn 4 (RA.spl 13 (Pw.sk 3 (RA.run RA.done)) (Pw.rn 4 RA.done))))
   (A.cond (A.seq (A.reg (Pw.rn 2 RA.done))
   A.leaf)
   A.leaf))
   (A.seq (A.reg (Pw.rn 4 RA.done))
   A.leaf))))
noncomputable def z35_O (Kv : VW) : List Ob := (obs Tryz.prog z35_E 20 (z35_A Kv) z35_C (fun _ => retQ Tryz.prog Tryz.f22.results Kv))
theorem z35_e (Kv : VW) (p_0_0p : Option Addr) (p_0_0l p_0_0c : Nat) (p_0_1p : Option Addr) (p_0_1l p_0_1c : Nat) (p_0_2p : Option Addr) (p_0_2l p_0_2c : Nat) (p_0_3 p_0_4 : Int) (take_1p : Option Addr) (take_1l take_1c : Nat) (w : World) : z35_sd ⟨p_0_0p, p_0_0l, p_0_0c⟩ ⟨p_0_1p, p_0_1l, p_0_1c⟩ ⟨p_0_2p, p_0_2l, p_0_2c⟩ p_0_3 p_0_4 ⟨take_1p, take_1l, take_1c⟩ (Pw.kJ Kv) w = W Tryz.prog z35_E 20 (z35_A Kv) z35_C [] (retQ Tryz.prog Tryz.f22.results Kv) [] (startS [(Value.agg #[(Value.slice p_0_0p p_0_0l p_0_0c), (Value.slice p_0_1p p_0_1l p_0_1c), (Value.slice p_0_2p p_0_2l p_0_2c), (Value.int .i64 p_0_3), (Value.int .i64 p_0_4)]), (Value.slice take_1p take_1l take_1c)]) w := by kernel_rfl
theorem z35_n (Kv : VW) : obAt (z35_O Kv) 0 = none := by kernel_rfl
theorem z35_h (Kv : VW) : ∀ k, holdsAt Tryz.prog z35_E 20 (z35_O Kv) k := fun _ => holdsAt_ge (z35_n Kv) (Nat.zero_le _)
theorem z35_ok : Sound Tryz.prog 22 z35_S := ⟨Tryz.call22, fun vs w Kv h => by
  unfold z35_S at h
  split at h
  . have h := h.out
    rw [z35_e] at h
    exact calls_sound (Γ := z35_E) progMixed ⟨.inl z2g_ok, .inl z31_ok, .inl z2j_ok, trivial⟩ Tryz.func22 (code := z35_C) (by kernel_rfl) (z35_A Kv) Kv (holds_all (z35_h Kv)) (Nat.le_of_ble_eq_true (by kernel_rfl)) h
  . exact h.elim⟩
end Go.Proofs.YtmkjcheafdionaaGreat
