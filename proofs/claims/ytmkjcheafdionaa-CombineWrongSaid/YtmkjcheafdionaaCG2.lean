/- The bodies' formulas, by program. -/
import Derived.Test.YtmkjcheafdionaaProg
import Derived.KernelRfl
import Derived.Test.YtmkjcheafdionaaPwX
import Derived.Test.YtmkjcheafdionaaCG0
import Derived.Test.YtmkjcheafdionaaCG1
set_option maxRecDepth 20000
namespace Go.Proofs.Ytmkjcheafdionaa
open Go Pw
/-! slices_Index -/
def slices_Index_b0 (s_0 : Sl) (v_1 t_7 t_8 : Int) (N0 : Sl -> Int -> Int -> Int -> World -> Prop) (K : Int -> World -> Prop) (w : World) : Prop :=
  cnd (decide (t_8 < t_7))
    (nz s_0.p fun a1 => (0 <= t_8 /\ t_8 < (s_0.l : Nat)) /\ ∃ x2 : Int, w.cell? (a1.add (t_8.toNat * 1)) = some (Value.int .i64 x2) /\ cnd (v_1 == x2)
    (K t_8 w)
    (inR .i64 (t_8 + (1 : Int)) /\ N0 s_0 v_1 t_7 (t_8 + (1 : Int)) w))
    (K (-1 : Int) w)
def slices_Index_l0d (s_0 : Sl) (v_1 t_7 t_8 : Int) (K : Int -> World -> Prop) (w : World) : Prop :=
  ∃ (I : Int -> World -> Prop) (μ : Int -> World -> Nat), I t_8 w /\ ∀ (t_81 : Int) (w1 : World), I t_81 w1 ->
    slices_Index_b0 s_0 v_1 t_7 t_81 (fun s_0' v_1' t_7' t_8' w' => ((s_0' = s_0 /\ v_1' = v_1 /\ t_7' = t_7 /\ True) /\ I t_8' w') /\ μ t_8' w' < μ t_81 w1) K w1
structure slices_Index_l0 (s_0 : Sl) (v_1 t_7 t_8 : Int) (K : Int -> World -> Prop) (w : World) : Prop where
  out : slices_Index_l0d s_0 v_1 t_7 t_8 K w
def slices_Index_sd (s_0 : Sl) (v_1 : Int) (K : Int -> World -> Prop) (w : World) : Prop :=
  slices_Index_l0 s_0 v_1 (s_0.l : Int) (0 : Int) K w
structure slices_Index_sh (s_0 : Sl) (v_1 : Int) (K : Int -> World -> Prop) (w : World) : Prop where
  out : slices_Index_sd s_0 v_1 K w
def slices_Index_P0 (Kv : VW) (ρ : Rho) (vs : List Value) (w : World) : Prop :=
  match ρ, vs with
  | _, [.slice s_0p s_0l s_0c, .int .i64 v_1, .int .i64 t_7, .int .i64 t_8] => slices_Index_l0 ⟨s_0p, s_0l, s_0c⟩ v_1 t_7 t_8 (fun r0 w' => Kv (Value.int .i64 r0) w') w
  | _, _ => False
noncomputable def slices_Index_S : Pw.Spec := fun vs w Kv =>
  match vs with
  | [.slice s_0p s_0l s_0c, .int .i64 v_1] => slices_Index_sh ⟨s_0p, s_0l, s_0c⟩ v_1 (fun r0 w' => Kv (Value.int .i64 r0) w') w
  | _ => False
noncomputable def slices_Index_E : Pw.Env := []
noncomputable def slices_Index_C : Code := (Try.f55.body).getD .skip
noncomputable def slices_Index_A (Kv : VW) : Pw.A :=
  (A.seq (A.reg (RA.run RA.done))
   (A.seq (A.seq (A.reg (Pw.rn 3 RA.done))
   (A.blk (A.loop [0, 1, 7, 8] (slices_Index_P0 Kv) (A.seq (A.reg (RA.run RA.done))
   (A.seq (A.cond A.leaf
   A.leaf)
   (A.seq (A.blk (A.seq (A.reg (Pw.rn 2 RA.done))
   (A.seq (A.reg (Pw.rn 6 RA.done))
   (A.cond (A.seq (A.reg (Pw.rn 2 RA.done))
   A.leaf)
   A.leaf))))
   (A.reg (Pw.rn 2 RA.done))))))))
   (A.seq (A.reg (RA.run RA.done))
   A.leaf)))
noncomputable def slices_Index_O (Kv : VW) : List Ob := (obs Try.prog slices_Index_E 19 (slices_Index_A Kv) slices_Index_C (fun _ => retQ Try.prog Try.f55.results Kv))
theorem slices_Index_e (Kv : VW) (s_0p : Option Addr) (s_0l s_0c : Nat) (v_1 : Int) (w : World) : slices_Index_sd ⟨s_0p, s_0l, s_0c⟩ v_1 (fun r0 w' => Kv (Value.int .i64 r0) w') w = W Try.prog slices_Index_E 19 (slices_Index_A Kv) slices_Index_C [] (retQ Try.prog Try.f55.results Kv) [] (startS [(Value.slice s_0p s_0l s_0c), (Value.int .i64 v_1)]) w := by kernel_rfl
theorem slices_Index_e0 (Kv : VW) (N0 : List Value -> World -> Prop) (ρ : Rho) (s_0p : Option Addr) (s_0l s_0c : Nat) (v_1 t_7 t_8 : Int) (w : World) : slices_Index_b0 ⟨s_0p, s_0l, s_0c⟩ v_1 t_7 t_8 (fun s_0' v_1' t_7' t_8' w' => N0 [(Value.slice s_0'.p s_0'.l s_0'.c), (Value.int .i64 v_1'), (Value.int .i64 t_7'), (Value.int .i64 t_8')] w') (fun r0 w' => Kv (Value.int .i64 r0) w') w = goalAt Try.prog slices_Index_E 19 (slices_Index_O Kv) 0 (N0 :: ρ) [(Value.slice s_0p s_0l s_0c), (Value.int .i64 v_1), (Value.int .i64 t_7), (Value.int .i64 t_8)] w := by kernel_rfl
theorem slices_Index_q0 (Kv : VW) (ρ : Rho) (vs : List Value) (w : World) : labAt (slices_Index_O Kv) 0 ρ vs w = slices_Index_P0 Kv ρ vs w := by kernel_rfl
def slices_Index_I0 (s_00 : Sl) (v_10 t_70 : Int) (I : Int -> World -> Prop) (vs : List Value) (w : World) : Prop :=
  match vs with
  | [.slice s_0p s_0l s_0c, .int .i64 v_1, .int .i64 t_7, .int .i64 t_8] => (⟨s_0p, s_0l, s_0c⟩ = s_00 /\ v_1 = v_10 /\ t_7 = t_70 /\ True) /\ I t_8 w
  | _ => False
def slices_Index_M0 (μ : Int -> World -> Nat) (vs : List Value) (w : World) : Nat :=
  match vs with
  | [.slice _s_0p _s_0l _s_0c, .int .i64 _v_1, .int .i64 _t_7, .int .i64 t_8] => μ t_8 w
  | _ => 0
theorem slices_Index_h0 (Kv : VW) : holdsAt Try.prog slices_Index_E 19 (slices_Index_O Kv) 0 := holdsAt_loop (by kernel_rfl) (fun ρ vs w h => by
  rw [slices_Index_q0] at h
  unfold slices_Index_P0 at h
  split at h
  · rename_i ρt s_0p s_0l s_0c v_1 t_7 t_8
    obtain ⟨I, μ, h0, hr⟩ := h.out
    refine ⟨slices_Index_I0 ⟨s_0p, s_0l, s_0c⟩ v_1 t_7 I, slices_Index_M0 μ, ⟨⟨rfl, rfl, rfl, trivial⟩, h0⟩, fun vs w hI => ?_⟩
    unfold slices_Index_I0 at hI
    split at hI
    · obtain ⟨⟨h0, h1, h2, _⟩, hI⟩ := hI
      cases h0; cases h1; cases h2
      rw [← slices_Index_e0]
      exact hr _ _ hI
    · exact hI.elim
  · exact h.elim)
theorem slices_Index_n (Kv : VW) : obAt (slices_Index_O Kv) 1 = none := by kernel_rfl
theorem slices_Index_h (Kv : VW) : ∀ k, holdsAt Try.prog slices_Index_E 19 (slices_Index_O Kv) k := fun k => match k with
  | 0 => slices_Index_h0 Kv
  | _k + 1 => holdsAt_ge (slices_Index_n Kv) (Nat.le_add_left _ _)
theorem slices_Index_ok : Sound Try.prog 55 slices_Index_S := ⟨Try.call55, fun vs w Kv h => by
  unfold slices_Index_S at h
  split at h
  · have h := h.out
    rw [slices_Index_e] at h
    exact calls_sound (Γ := slices_Index_E) progMixed trivial Try.func55 (code := slices_Index_C) (by kernel_rfl) (slices_Index_A Kv) Kv (holds_all (slices_Index_h Kv)) (Nat.le_of_ble_eq_true (by kernel_rfl)) h
  · exact h.elim⟩
/-! slices_Contains -/
def slices_Contains_sd (s_0 : Sl) (v_1 : Int) (K : Bool -> World -> Prop) (w : World) : Prop :=
  slices_Index_sh s_0 v_1 (fun r2 w1 => K (decide (r2 >= (0 : Int))) w1) w
structure slices_Contains_sh (s_0 : Sl) (v_1 : Int) (K : Bool -> World -> Prop) (w : World) : Prop where
  out : slices_Contains_sd s_0 v_1 K w
noncomputable def slices_Contains_S : Pw.Spec := fun vs w Kv =>
  match vs with
  | [.slice s_0p s_0l s_0c, .int .i64 v_1] => slices_Contains_sh ⟨s_0p, s_0l, s_0c⟩ v_1 (fun r0 w' => Kv (Value.bool r0) w') w
  | _ => False
noncomputable def slices_Contains_E : Pw.Env := [(55, slices_Index_S)]
noncomputable def slices_Contains_C : Code := (Try.f35.body).getD .skip
noncomputable def slices_Contains_A (_Kv : VW) : Pw.A :=
  (A.seq (A.reg (RA.run RA.done))
   (A.seq (A.reg (Pw.rn 5 RA.done))
   A.leaf))
noncomputable def slices_Contains_O (Kv : VW) : List Ob := (obs Try.prog slices_Contains_E 9 (slices_Contains_A Kv) slices_Contains_C (fun _ => retQ Try.prog Try.f35.results Kv))
theorem slices_Contains_e (Kv : VW) (s_0p : Option Addr) (s_0l s_0c : Nat) (v_1 : Int) (w : World) : slices_Contains_sd ⟨s_0p, s_0l, s_0c⟩ v_1 (fun r0 w' => Kv (Value.bool r0) w') w = W Try.prog slices_Contains_E 9 (slices_Contains_A Kv) slices_Contains_C [] (retQ Try.prog Try.f35.results Kv) [] (startS [(Value.slice s_0p s_0l s_0c), (Value.int .i64 v_1)]) w := by kernel_rfl
theorem slices_Contains_n (Kv : VW) : obAt (slices_Contains_O Kv) 0 = none := by kernel_rfl
theorem slices_Contains_h (Kv : VW) : ∀ k, holdsAt Try.prog slices_Contains_E 9 (slices_Contains_O Kv) k := fun _ => holdsAt_ge (slices_Contains_n Kv) (Nat.zero_le _)
theorem slices_Contains_ok : Sound Try.prog 35 slices_Contains_S := ⟨Try.call35, fun vs w Kv h => by
  unfold slices_Contains_S at h
  split at h
  · have h := h.out
    rw [slices_Contains_e] at h
    exact calls_sound (Γ := slices_Contains_E) progMixed ⟨.inl slices_Index_ok, trivial⟩ Try.func35 (code := slices_Contains_C) (by kernel_rfl) (slices_Contains_A Kv) Kv (holds_all (slices_Contains_h Kv)) (Nat.le_of_ble_eq_true (by kernel_rfl)) h
  · exact h.elim⟩
/-! Cb_right_1 -/
def Cb_right_1_sd (id_0 : Int) (t_1 : Addr) (K : Bool -> World -> Prop) (w : World) : Prop :=
  ∃ x1 : Sl, w.cell? t_1 = some (Value.slice x1.p x1.l x1.c) /\ slices_Contains_sh x1 id_0 (fun r3 w2 => K r3 w2) w
structure Cb_right_1_sh (id_0 : Int) (t_1 : Addr) (K : Bool -> World -> Prop) (w : World) : Prop where
  out : Cb_right_1_sd id_0 t_1 K w
noncomputable def Cb_right_1_S : Pw.Spec := fun vs w Kv =>
  match vs with
  | [.int .i64 id_0, .pointer (some t_1)] => Cb_right_1_sh id_0 t_1 (fun r0 w' => Kv (Value.bool r0) w') w
  | _ => False
noncomputable def Cb_right_1_E : Pw.Env := [(35, slices_Contains_S)]
noncomputable def Cb_right_1_C : Code := (Try.f34.body).getD .skip
noncomputable def Cb_right_1_A (_Kv : VW) : Pw.A :=
  (A.seq (A.reg (RA.run RA.done))
   (A.seq (A.reg (Pw.rn 5 RA.done))
   A.leaf))
noncomputable def Cb_right_1_O (Kv : VW) : List Ob := (obs Try.prog Cb_right_1_E 8 (Cb_right_1_A Kv) Cb_right_1_C (fun _ => retQ Try.prog Try.f34.results Kv))
theorem Cb_right_1_e (Kv : VW) (id_0 : Int) (t_1 : Addr) (w : World) : Cb_right_1_sd id_0 t_1 (fun r0 w' => Kv (Value.bool r0) w') w = W Try.prog Cb_right_1_E 8 (Cb_right_1_A Kv) Cb_right_1_C [] (retQ Try.prog Try.f34.results Kv) [] (startS [(Value.int .i64 id_0), (Value.pointer (some t_1))]) w := by kernel_rfl
theorem Cb_right_1_n (Kv : VW) : obAt (Cb_right_1_O Kv) 0 = none := by kernel_rfl
theorem Cb_right_1_h (Kv : VW) : ∀ k, holdsAt Try.prog Cb_right_1_E 8 (Cb_right_1_O Kv) k := fun _ => holdsAt_ge (Cb_right_1_n Kv) (Nat.zero_le _)
theorem Cb_right_1_ok : Sound Try.prog 34 Cb_right_1_S := ⟨Try.call34, fun vs w Kv h => by
  unfold Cb_right_1_S at h
  split at h
  · have h := h.out
    rw [Cb_right_1_e] at h
    exact calls_sound (Γ := Cb_right_1_E) progMixed ⟨.inl slices_Contains_ok, trivial⟩ Try.func34 (code := Cb_right_1_C) (by kernel_rfl) (Cb_right_1_A Kv) Kv (holds_all (Cb_right_1_h Kv)) (Nat.le_of_ble_eq_true (by kernel_rfl)) h
  · exact h.elim⟩
/-! Cb_within -/
def Cb_within_sd (n_0 most_1 : Int) (K : Bool -> World -> Prop) (w : World) : Prop :=
  cnd (decide (n_0 >= (0 : Int)))
    (K (decide (n_0 <= most_1)) w)
    (K false w)
structure Cb_within_sh (n_0 most_1 : Int) (K : Bool -> World -> Prop) (w : World) : Prop where
  out : Cb_within_sd n_0 most_1 K w
noncomputable def Cb_within_S : Pw.Spec := fun vs w Kv =>
  match vs with
  | [.int .i64 n_0, .int .i64 most_1] => Cb_within_sh n_0 most_1 (fun r0 w' => Kv (Value.bool r0) w') w
  | _ => False
noncomputable def Cb_within_E : Pw.Env := []
noncomputable def Cb_within_C : Code := (Try.f21.body).getD .skip
noncomputable def Cb_within_A (_Kv : VW) : Pw.A :=
  (A.seq (A.reg (RA.run RA.done))
   (A.seq (A.reg (Pw.rn 3 (RA.spl 7 (Pw.rn 5 RA.done) (Pw.sk 3 (Pw.rn 2 RA.done)))))
   A.leaf))
noncomputable def Cb_within_O (Kv : VW) : List Ob := (obs Try.prog Cb_within_E 12 (Cb_within_A Kv) Cb_within_C (fun _ => retQ Try.prog Try.f21.results Kv))
theorem Cb_within_e (Kv : VW) (n_0 most_1 : Int) (w : World) : Cb_within_sd n_0 most_1 (fun r0 w' => Kv (Value.bool r0) w') w = W Try.prog Cb_within_E 12 (Cb_within_A Kv) Cb_within_C [] (retQ Try.prog Try.f21.results Kv) [] (startS [(Value.int .i64 n_0), (Value.int .i64 most_1)]) w := by kernel_rfl
theorem Cb_within_n (Kv : VW) : obAt (Cb_within_O Kv) 0 = none := by kernel_rfl
theorem Cb_within_h (Kv : VW) : ∀ k, holdsAt Try.prog Cb_within_E 12 (Cb_within_O Kv) k := fun _ => holdsAt_ge (Cb_within_n Kv) (Nat.zero_le _)
theorem Cb_within_ok : Sound Try.prog 21 Cb_within_S := ⟨Try.call21, fun vs w Kv h => by
  unfold Cb_within_S at h
  split at h
  · have h := h.out
    rw [Cb_within_e] at h
    exact calls_sound (Γ := Cb_within_E) progMixed trivial Try.func21 (code := Cb_within_C) (by kernel_rfl) (Cb_within_A Kv) Kv (holds_all (Cb_within_h Kv)) (Nat.le_of_ble_eq_true (by kernel_rfl)) h
  · exact h.elim⟩
/-! Cb_right_2 -/
def Cb_right_2_sd (c_0_0 c_0_1 : Int) (c_0_2 c_0_3 : Int) (t_1 : Addr) (K : Bool -> World -> Prop) (w : World) : Prop :=
  let w1 := w.alloc (Obj.cells #[(Value.int .i64 c_0_0), (Value.int .i64 c_0_1), (Value.int .i64 c_0_2), (Value.int .i64 c_0_3)] 56)
  ∃ x2 : Value, w1.cell? t_1 = some x2 /\ ∃ x3 : Int, w1.cell? (Addr.mk w.heap.size 0 none) = some (Value.int .i64 x3) /\ CallV Try.prog x2 [(Value.int .i64 x3)] w1 fun u4 w5 => ∃ x6 : Bool, u4 = (Value.bool x6) /\ cnd x6
    (∃ x7 : Int, w5.cell? (Addr.mk w.heap.size 2 none) = some (Value.int .i64 x7) /\ Cb_within_sh x7 (1000000000 : Int) (fun r9 w8 => cnd r9
    (∃ x10 : Int, w8.cell? (Addr.mk w.heap.size 3 none) = some (Value.int .i64 x10) /\ Cb_within_sh x10 (1000000 : Int) (fun r12 w11 => K r12 w11) w8)
    (K false w8)) w5)
    (K false w5)
structure Cb_right_2_sh (c_0_0 c_0_1 : Int) (c_0_2 c_0_3 : Int) (t_1 : Addr) (K : Bool -> World -> Prop) (w : World) : Prop where
  out : Cb_right_2_sd c_0_0 c_0_1 c_0_2 c_0_3 t_1 K w
noncomputable def Cb_right_2_S : Pw.Spec := fun vs w Kv =>
  match vs with
  | [.agg ⟨[.int .i64 c_0_0, .int .i64 c_0_1, .int .i64 c_0_2, .int .i64 c_0_3]⟩, .pointer (some t_1)] => Cb_right_2_sh c_0_0 c_0_1 c_0_2 c_0_3 t_1 (fun r0 w' => Kv (Value.bool r0) w') w
  | _ => False
noncomputable def Cb_right_2_E : Pw.Env := [(21, Cb_within_S)]
noncomputable def Cb_right_2_C : Code := (Try.f36.body).getD .skip
noncomputable def Cb_right_2_A (_Kv : VW) : Pw.A :=
  (A.seq (A.reg (Pw.rn 2 RA.done))
   (A.seq (A.reg (Pw.rn 3 (RA.dyn (Value.bool false) (RA.run (RA.spl 8 (Pw.rn 5 (RA.spl 13 (Pw.rn 5 RA.done) (Pw.sk 3 (Pw.rn 2 RA.done)))) (Pw.sk 3 (Pw.rn 2 (Pw.sk 3 (Pw.rn 2 RA.done)))))))))
   A.leaf))
noncomputable def Cb_right_2_O (Kv : VW) : List Ob := (obs Try.prog Cb_right_2_E 18 (Cb_right_2_A Kv) Cb_right_2_C (fun _ => retQ Try.prog Try.f36.results Kv))
theorem Cb_right_2_e (Kv : VW) (c_0_0 c_0_1 : Int) (c_0_2 c_0_3 : Int) (t_1 : Addr) (w : World) : Cb_right_2_sd c_0_0 c_0_1 c_0_2 c_0_3 t_1 (fun r0 w' => Kv (Value.bool r0) w') w = W Try.prog Cb_right_2_E 18 (Cb_right_2_A Kv) Cb_right_2_C [] (retQ Try.prog Try.f36.results Kv) [] (startS [(Value.agg #[(Value.int .i64 c_0_0), (Value.int .i64 c_0_1), (Value.int .i64 c_0_2), (Value.int .i64 c_0_3)]), (Value.pointer (some t_1))]) w := by kernel_rfl
theorem Cb_right_2_n (Kv : VW) : obAt (Cb_right_2_O Kv) 0 = none := by kernel_rfl
theorem Cb_right_2_h (Kv : VW) : ∀ k, holdsAt Try.prog Cb_right_2_E 18 (Cb_right_2_O Kv) k := fun _ => holdsAt_ge (Cb_right_2_n Kv) (Nat.zero_le _)
theorem Cb_right_2_ok : Sound Try.prog 36 Cb_right_2_S := ⟨Try.call36, fun vs w Kv h => by
  unfold Cb_right_2_S at h
  split at h
  · have h := h.out
    rw [Cb_right_2_e] at h
    exact calls_sound (Γ := Cb_right_2_E) progMixed ⟨.inl Cb_within_ok, trivial⟩ Try.func36 (code := Cb_right_2_C) (by kernel_rfl) (Cb_right_2_A Kv) Kv (holds_all (Cb_right_2_h Kv)) (Nat.le_of_ble_eq_true (by kernel_rfl)) h
  · exact h.elim⟩
/-! Cb_distinct -/
def Cb_distinct_b0 (seen_3 : Nat) (t_7 : Sl) (t_8 t_9 : Int) (N0 : Nat -> Sl -> Int -> Int -> World -> Prop) (K : Bool -> World -> Prop) (w : World) : Prop :=
  cnd (decide (t_9 < t_8))
    (nz t_7.p fun a2 => (0 <= t_9 /\ t_9 < (t_7.l : Nat)) /\ ∃ x3 : Int, w.cell? (a2.add (t_9.toNat * 1)) = some (Value.int .i64 x3) /\ ∃ l4 : List (Int × Bool), Mp w seen_3 .i64 (l4.map fun p => (p.1, Value.bool p.2)) /\ cnd (mgetD false x3 l4)
    (K false w)
    ((∃ l : List (Int × Value), Mp w seen_3 .i64 l) /\ let w5 := w.mset seen_3 .i64 x3 (Value.bool true)
  inR .i64 (t_9 + (1 : Int)) /\ N0 seen_3 t_7 t_8 (t_9 + (1 : Int)) w5))
    (K true w)
def Cb_distinct_l0d (seen_3 : Nat) (t_7 : Sl) (t_8 t_9 : Int) (K : Bool -> World -> Prop) (w : World) : Prop :=
  ∃ (I : Int -> World -> Prop) (μ : Int -> World -> Nat), I t_9 w /\ ∀ (t_91 : Int) (w1 : World), I t_91 w1 ->
    Cb_distinct_b0 seen_3 t_7 t_8 t_91 (fun seen_3' t_7' t_8' t_9' w' => ((seen_3' = seen_3 /\ t_7' = t_7 /\ t_8' = t_8 /\ True) /\ I t_9' w') /\ μ t_9' w' < μ t_91 w1) K w1
structure Cb_distinct_l0 (seen_3 : Nat) (t_7 : Sl) (t_8 t_9 : Int) (K : Bool -> World -> Prop) (w : World) : Prop where
  out : Cb_distinct_l0d seen_3 t_7 t_8 t_9 K w
def Cb_distinct_sd (l_0 : Sl) (K : Bool -> World -> Prop) (w : World) : Prop :=
  let w1 := w.alloc (Obj.map #[] 0)
  Cb_distinct_l0 w.heap.size l_0 (l_0.l : Int) (0 : Int) K w1
structure Cb_distinct_sh (l_0 : Sl) (K : Bool -> World -> Prop) (w : World) : Prop where
  out : Cb_distinct_sd l_0 K w
def Cb_distinct_P0 (Kv : VW) (ρ : Rho) (vs : List Value) (w : World) : Prop :=
  match ρ, vs with
  | _, [.map (some seen_3), .slice t_7p t_7l t_7c, .int .i64 t_8, .int .i64 t_9] => Cb_distinct_l0 seen_3 ⟨t_7p, t_7l, t_7c⟩ t_8 t_9 (fun r0 w' => Kv (Value.bool r0) w') w
  | _, _ => False
noncomputable def Cb_distinct_S : Pw.Spec := fun vs w Kv =>
  match vs with
  | [.slice l_0p l_0l l_0c] => Cb_distinct_sh ⟨l_0p, l_0l, l_0c⟩ (fun r0 w' => Kv (Value.bool r0) w') w
  | _ => False
noncomputable def Cb_distinct_E : Pw.Env := []
noncomputable def Cb_distinct_C : Code := (Try.f38.body).getD .skip
noncomputable def Cb_distinct_A (Kv : VW) : Pw.A :=
  (A.seq (A.reg (RA.run RA.done))
   (A.seq (A.reg (Pw.rn 2 RA.done))
   (A.seq (A.seq (A.reg (Pw.rn 3 RA.done))
   (A.blk (A.loop [3, 7, 8, 9] (Cb_distinct_P0 Kv) (A.seq (A.reg (RA.run RA.done))
   (A.seq (A.cond A.leaf
   A.leaf)
   (A.seq (A.blk (A.seq (A.reg (Pw.rn 3 RA.done))
   (A.seq (A.seq (A.reg (Pw.rn 3 RA.done))
   (A.cond (A.seq (A.reg (RA.run RA.done))
   A.leaf)
   A.leaf))
   (A.reg (Pw.rn 3 RA.done)))))
   (A.reg (Pw.rn 2 RA.done))))))))
   (A.seq (A.reg (RA.run RA.done))
   A.leaf))))
noncomputable def Cb_distinct_O (Kv : VW) : List Ob := (obs Try.prog Cb_distinct_E 19 (Cb_distinct_A Kv) Cb_distinct_C (fun _ => retQ Try.prog Try.f38.results Kv))
theorem Cb_distinct_e (Kv : VW) (l_0p : Option Addr) (l_0l l_0c : Nat) (w : World) : Cb_distinct_sd ⟨l_0p, l_0l, l_0c⟩ (fun r0 w' => Kv (Value.bool r0) w') w = W Try.prog Cb_distinct_E 19 (Cb_distinct_A Kv) Cb_distinct_C [] (retQ Try.prog Try.f38.results Kv) [] (startS [(Value.slice l_0p l_0l l_0c)]) w := by kernel_rfl
theorem Cb_distinct_e0 (Kv : VW) (N0 : List Value -> World -> Prop) (ρ : Rho) (seen_3 : Nat) (t_7p : Option Addr) (t_7l t_7c : Nat) (t_8 t_9 : Int) (w : World) : Cb_distinct_b0 seen_3 ⟨t_7p, t_7l, t_7c⟩ t_8 t_9 (fun seen_3' t_7' t_8' t_9' w' => N0 [(Value.map (some seen_3')), (Value.slice t_7'.p t_7'.l t_7'.c), (Value.int .i64 t_8'), (Value.int .i64 t_9')] w') (fun r0 w' => Kv (Value.bool r0) w') w = goalAt Try.prog Cb_distinct_E 19 (Cb_distinct_O Kv) 0 (N0 :: ρ) [(Value.map (some seen_3)), (Value.slice t_7p t_7l t_7c), (Value.int .i64 t_8), (Value.int .i64 t_9)] w := by kernel_rfl
theorem Cb_distinct_q0 (Kv : VW) (ρ : Rho) (vs : List Value) (w : World) : labAt (Cb_distinct_O Kv) 0 ρ vs w = Cb_distinct_P0 Kv ρ vs w := by kernel_rfl
def Cb_distinct_I0 (seen_30 : Nat) (t_70 : Sl) (t_80 : Int) (I : Int -> World -> Prop) (vs : List Value) (w : World) : Prop :=
  match vs with
  | [.map (some seen_3), .slice t_7p t_7l t_7c, .int .i64 t_8, .int .i64 t_9] => (seen_3 = seen_30 /\ ⟨t_7p, t_7l, t_7c⟩ = t_70 /\ t_8 = t_80 /\ True) /\ I t_9 w
  | _ => False
def Cb_distinct_M0 (μ : Int -> World -> Nat) (vs : List Value) (w : World) : Nat :=
  match vs with
  | [.map (some _seen_3), .slice _t_7p _t_7l _t_7c, .int .i64 _t_8, .int .i64 t_9] => μ t_9 w
  | _ => 0
theorem Cb_distinct_h0 (Kv : VW) : holdsAt Try.prog Cb_distinct_E 19 (Cb_distinct_O Kv) 0 := holdsAt_loop (by kernel_rfl) (fun ρ vs w h => by
  rw [Cb_distinct_q0] at h
  unfold Cb_distinct_P0 at h
  split at h
  · rename_i ρt seen_3 t_7p t_7l t_7c t_8 t_9
    obtain ⟨I, μ, h0, hr⟩ := h.out
    refine ⟨Cb_distinct_I0 seen_3 ⟨t_7p, t_7l, t_7c⟩ t_8 I, Cb_distinct_M0 μ, ⟨⟨rfl, rfl, rfl, trivial⟩, h0⟩, fun vs w hI => ?_⟩
    unfold Cb_distinct_I0 at hI
    split at hI
    · obtain ⟨⟨h0, h1, h2, _⟩, hI⟩ := hI
      cases h0; cases h1; cases h2
      rw [← Cb_distinct_e0]
      exact hr _ _ hI
    · exact hI.elim
  · exact h.elim)
theorem Cb_distinct_n (Kv : VW) : obAt (Cb_distinct_O Kv) 1 = none := by kernel_rfl
theorem Cb_distinct_h (Kv : VW) : ∀ k, holdsAt Try.prog Cb_distinct_E 19 (Cb_distinct_O Kv) k := fun k => match k with
  | 0 => Cb_distinct_h0 Kv
  | _k + 1 => holdsAt_ge (Cb_distinct_n Kv) (Nat.le_add_left _ _)
theorem Cb_distinct_ok : Sound Try.prog 38 Cb_distinct_S := ⟨Try.call38, fun vs w Kv h => by
  unfold Cb_distinct_S at h
  split at h
  · have h := h.out
    rw [Cb_distinct_e] at h
    exact calls_sound (Γ := Cb_distinct_E) progMixed trivial Try.func38 (code := Cb_distinct_C) (by kernel_rfl) (Cb_distinct_A Kv) Kv (holds_all (Cb_distinct_h Kv)) (Nat.le_of_ble_eq_true (by kernel_rfl)) h
  · exact h.elim⟩
/-! Cb_all_1 -/
def Cb_all_1_sd (x_0 : Int) (t_1 : Addr) (K : Bool -> World -> Prop) (w : World) : Prop :=
  ∃ x1 : Value, w.cell? t_1 = some x1 /\ CallV Try.prog x1 [(Value.int .i64 x_0)] w fun u2 w3 => ∃ x4 : Bool, u2 = (Value.bool x4) /\ K (!x4) w3
structure Cb_all_1_sh (x_0 : Int) (t_1 : Addr) (K : Bool -> World -> Prop) (w : World) : Prop where
  out : Cb_all_1_sd x_0 t_1 K w
noncomputable def Cb_all_1_S : Pw.Spec := fun vs w Kv =>
  match vs with
  | [.int .i64 x_0, .pointer (some t_1)] => Cb_all_1_sh x_0 t_1 (fun r0 w' => Kv (Value.bool r0) w') w
  | _ => False
noncomputable def Cb_all_1_E : Pw.Env := []
noncomputable def Cb_all_1_C : Code := (Try.f57.body).getD .skip
noncomputable def Cb_all_1_A (_Kv : VW) : Pw.A :=
  (A.seq (A.reg (RA.run RA.done))
   (A.seq (A.reg (Pw.rn 2 (RA.dyn (Value.bool false) (Pw.rn 2 RA.done))))
   A.leaf))
noncomputable def Cb_all_1_O (Kv : VW) : List Ob := (obs Try.prog Cb_all_1_E 8 (Cb_all_1_A Kv) Cb_all_1_C (fun _ => retQ Try.prog Try.f57.results Kv))
theorem Cb_all_1_e (Kv : VW) (x_0 : Int) (t_1 : Addr) (w : World) : Cb_all_1_sd x_0 t_1 (fun r0 w' => Kv (Value.bool r0) w') w = W Try.prog Cb_all_1_E 8 (Cb_all_1_A Kv) Cb_all_1_C [] (retQ Try.prog Try.f57.results Kv) [] (startS [(Value.int .i64 x_0), (Value.pointer (some t_1))]) w := by kernel_rfl
theorem Cb_all_1_n (Kv : VW) : obAt (Cb_all_1_O Kv) 0 = none := by kernel_rfl
theorem Cb_all_1_h (Kv : VW) : ∀ k, holdsAt Try.prog Cb_all_1_E 8 (Cb_all_1_O Kv) k := fun _ => holdsAt_ge (Cb_all_1_n Kv) (Nat.zero_le _)
theorem Cb_all_1_ok : Sound Try.prog 57 Cb_all_1_S := ⟨Try.call57, fun vs w Kv h => by
  unfold Cb_all_1_S at h
  split at h
  · have h := h.out
    rw [Cb_all_1_e] at h
    exact calls_sound (Γ := Cb_all_1_E) progMixed trivial Try.func57 (code := Cb_all_1_C) (by kernel_rfl) (Cb_all_1_A Kv) Kv (holds_all (Cb_all_1_h Kv)) (Nat.le_of_ble_eq_true (by kernel_rfl)) h
  · exact h.elim⟩
/-! slices_IndexFunc -/
def slices_IndexFunc_b0 (s_0 : Sl) (f_1 : Value) (t_7 t_8 : Int) (N0 : Sl -> Value -> Int -> Int -> World -> Prop) (K : Int -> World -> Prop) (w : World) : Prop :=
  cnd (decide (t_8 < t_7))
    (nz s_0.p fun a1 => (0 <= t_8 /\ t_8 < (s_0.l : Nat)) /\ ∃ x2 : Int, w.cell? (a1.add (t_8.toNat * 1)) = some (Value.int .i64 x2) /\ CallV Try.prog f_1 [(Value.int .i64 x2)] w fun u3 w4 => ∃ x5 : Bool, u3 = (Value.bool x5) /\ cnd x5
    (K t_8 w4)
    (inR .i64 (t_8 + (1 : Int)) /\ N0 s_0 f_1 t_7 (t_8 + (1 : Int)) w4))
    (K (-1 : Int) w)
def slices_IndexFunc_l0d (s_0 : Sl) (f_1 : Value) (t_7 t_8 : Int) (K : Int -> World -> Prop) (w : World) : Prop :=
  ∃ (I : Int -> World -> Prop) (μ : Int -> World -> Nat), I t_8 w /\ ∀ (t_81 : Int) (w1 : World), I t_81 w1 ->
    slices_IndexFunc_b0 s_0 f_1 t_7 t_81 (fun s_0' f_1' t_7' t_8' w' => ((s_0' = s_0 /\ f_1' = f_1 /\ t_7' = t_7 /\ True) /\ I t_8' w') /\ μ t_8' w' < μ t_81 w1) K w1
structure slices_IndexFunc_l0 (s_0 : Sl) (f_1 : Value) (t_7 t_8 : Int) (K : Int -> World -> Prop) (w : World) : Prop where
  out : slices_IndexFunc_l0d s_0 f_1 t_7 t_8 K w
def slices_IndexFunc_sd (s_0 : Sl) (f_1 : Value) (K : Int -> World -> Prop) (w : World) : Prop :=
  slices_IndexFunc_l0 s_0 f_1 (s_0.l : Int) (0 : Int) K w
structure slices_IndexFunc_sh (s_0 : Sl) (f_1 : Value) (K : Int -> World -> Prop) (w : World) : Prop where
  out : slices_IndexFunc_sd s_0 f_1 K w
def slices_IndexFunc_P0 (Kv : VW) (ρ : Rho) (vs : List Value) (w : World) : Prop :=
  match ρ, vs with
  | _, [.slice s_0p s_0l s_0c, f_1, .int .i64 t_7, .int .i64 t_8] => slices_IndexFunc_l0 ⟨s_0p, s_0l, s_0c⟩ f_1 t_7 t_8 (fun r0 w' => Kv (Value.int .i64 r0) w') w
  | _, _ => False
noncomputable def slices_IndexFunc_S : Pw.Spec := fun vs w Kv =>
  match vs with
  | [.slice s_0p s_0l s_0c, f_1] => slices_IndexFunc_sh ⟨s_0p, s_0l, s_0c⟩ f_1 (fun r0 w' => Kv (Value.int .i64 r0) w') w
  | _ => False
noncomputable def slices_IndexFunc_E : Pw.Env := []
noncomputable def slices_IndexFunc_C : Code := (Try.f71.body).getD .skip
noncomputable def slices_IndexFunc_A (Kv : VW) : Pw.A :=
  (A.seq (A.reg (RA.run RA.done))
   (A.seq (A.seq (A.reg (Pw.rn 3 RA.done))
   (A.blk (A.loop [0, 1, 7, 8] (slices_IndexFunc_P0 Kv) (A.seq (A.reg (RA.run RA.done))
   (A.seq (A.cond A.leaf
   A.leaf)
   (A.seq (A.blk (A.seq (A.reg (Pw.rn 2 RA.done))
   (A.seq (A.reg (Pw.rn 5 (RA.dyn (Value.bool false) RA.done)))
   (A.cond (A.seq (A.reg (Pw.rn 2 RA.done))
   A.leaf)
   A.leaf))))
   (A.reg (Pw.rn 2 RA.done))))))))
   (A.seq (A.reg (RA.run RA.done))
   A.leaf)))
noncomputable def slices_IndexFunc_O (Kv : VW) : List Ob := (obs Try.prog slices_IndexFunc_E 19 (slices_IndexFunc_A Kv) slices_IndexFunc_C (fun _ => retQ Try.prog Try.f71.results Kv))
theorem slices_IndexFunc_e (Kv : VW) (s_0p : Option Addr) (s_0l s_0c : Nat) (f_1 : Value) (w : World) : slices_IndexFunc_sd ⟨s_0p, s_0l, s_0c⟩ f_1 (fun r0 w' => Kv (Value.int .i64 r0) w') w = W Try.prog slices_IndexFunc_E 19 (slices_IndexFunc_A Kv) slices_IndexFunc_C [] (retQ Try.prog Try.f71.results Kv) [] (startS [(Value.slice s_0p s_0l s_0c), f_1]) w := by kernel_rfl
theorem slices_IndexFunc_e0 (Kv : VW) (N0 : List Value -> World -> Prop) (ρ : Rho) (s_0p : Option Addr) (s_0l s_0c : Nat) (f_1 : Value) (t_7 t_8 : Int) (w : World) : slices_IndexFunc_b0 ⟨s_0p, s_0l, s_0c⟩ f_1 t_7 t_8 (fun s_0' f_1' t_7' t_8' w' => N0 [(Value.slice s_0'.p s_0'.l s_0'.c), f_1', (Value.int .i64 t_7'), (Value.int .i64 t_8')] w') (fun r0 w' => Kv (Value.int .i64 r0) w') w = goalAt Try.prog slices_IndexFunc_E 19 (slices_IndexFunc_O Kv) 0 (N0 :: ρ) [(Value.slice s_0p s_0l s_0c), f_1, (Value.int .i64 t_7), (Value.int .i64 t_8)] w := by kernel_rfl
theorem slices_IndexFunc_q0 (Kv : VW) (ρ : Rho) (vs : List Value) (w : World) : labAt (slices_IndexFunc_O Kv) 0 ρ vs w = slices_IndexFunc_P0 Kv ρ vs w := by kernel_rfl
def slices_IndexFunc_I0 (s_00 : Sl) (f_10 : Value) (t_70 : Int) (I : Int -> World -> Prop) (vs : List Value) (w : World) : Prop :=
  match vs with
  | [.slice s_0p s_0l s_0c, f_1, .int .i64 t_7, .int .i64 t_8] => (⟨s_0p, s_0l, s_0c⟩ = s_00 /\ f_1 = f_10 /\ t_7 = t_70 /\ True) /\ I t_8 w
  | _ => False
def slices_IndexFunc_M0 (μ : Int -> World -> Nat) (vs : List Value) (w : World) : Nat :=
  match vs with
  | [.slice _s_0p _s_0l _s_0c, _f_1, .int .i64 _t_7, .int .i64 t_8] => μ t_8 w
  | _ => 0
theorem slices_IndexFunc_h0 (Kv : VW) : holdsAt Try.prog slices_IndexFunc_E 19 (slices_IndexFunc_O Kv) 0 := holdsAt_loop (by kernel_rfl) (fun ρ vs w h => by
  rw [slices_IndexFunc_q0] at h
  unfold slices_IndexFunc_P0 at h
  split at h
  · rename_i ρt s_0p s_0l s_0c f_1 t_7 t_8
    obtain ⟨I, μ, h0, hr⟩ := h.out
    refine ⟨slices_IndexFunc_I0 ⟨s_0p, s_0l, s_0c⟩ f_1 t_7 I, slices_IndexFunc_M0 μ, ⟨⟨rfl, rfl, rfl, trivial⟩, h0⟩, fun vs w hI => ?_⟩
    unfold slices_IndexFunc_I0 at hI
    split at hI
    · obtain ⟨⟨h0, h1, h2, _⟩, hI⟩ := hI
      cases h0; cases h1; cases h2
      rw [← slices_IndexFunc_e0]
      exact hr _ _ hI
    · exact hI.elim
  · exact h.elim)
theorem slices_IndexFunc_n (Kv : VW) : obAt (slices_IndexFunc_O Kv) 1 = none := by kernel_rfl
theorem slices_IndexFunc_h (Kv : VW) : ∀ k, holdsAt Try.prog slices_IndexFunc_E 19 (slices_IndexFunc_O Kv) k := fun k => match k with
  | 0 => slices_IndexFunc_h0 Kv
  | _k + 1 => holdsAt_ge (slices_IndexFunc_n Kv) (Nat.le_add_left _ _)
theorem slices_IndexFunc_ok : Sound Try.prog 71 slices_IndexFunc_S := ⟨Try.call71, fun vs w Kv h => by
  unfold slices_IndexFunc_S at h
  split at h
  · have h := h.out
    rw [slices_IndexFunc_e] at h
    exact calls_sound (Γ := slices_IndexFunc_E) progMixed trivial Try.func71 (code := slices_IndexFunc_C) (by kernel_rfl) (slices_IndexFunc_A Kv) Kv (holds_all (slices_IndexFunc_h Kv)) (Nat.le_of_ble_eq_true (by kernel_rfl)) h
  · exact h.elim⟩
/-! slices_ContainsFunc -/
def slices_ContainsFunc_sd (s_0 : Sl) (f_1 : Value) (K : Bool -> World -> Prop) (w : World) : Prop :=
  slices_IndexFunc_sh s_0 f_1 (fun r2 w1 => K (decide (r2 >= (0 : Int))) w1) w
structure slices_ContainsFunc_sh (s_0 : Sl) (f_1 : Value) (K : Bool -> World -> Prop) (w : World) : Prop where
  out : slices_ContainsFunc_sd s_0 f_1 K w
noncomputable def slices_ContainsFunc_S : Pw.Spec := fun vs w Kv =>
  match vs with
  | [.slice s_0p s_0l s_0c, f_1] => slices_ContainsFunc_sh ⟨s_0p, s_0l, s_0c⟩ f_1 (fun r0 w' => Kv (Value.bool r0) w') w
  | _ => False
noncomputable def slices_ContainsFunc_E : Pw.Env := [(71, slices_IndexFunc_S)]
noncomputable def slices_ContainsFunc_C : Code := (Try.f56.body).getD .skip
noncomputable def slices_ContainsFunc_A (_Kv : VW) : Pw.A :=
  (A.seq (A.reg (RA.run RA.done))
   (A.seq (A.reg (Pw.rn 5 RA.done))
   A.leaf))
noncomputable def slices_ContainsFunc_O (Kv : VW) : List Ob := (obs Try.prog slices_ContainsFunc_E 9 (slices_ContainsFunc_A Kv) slices_ContainsFunc_C (fun _ => retQ Try.prog Try.f56.results Kv))
theorem slices_ContainsFunc_e (Kv : VW) (s_0p : Option Addr) (s_0l s_0c : Nat) (f_1 : Value) (w : World) : slices_ContainsFunc_sd ⟨s_0p, s_0l, s_0c⟩ f_1 (fun r0 w' => Kv (Value.bool r0) w') w = W Try.prog slices_ContainsFunc_E 9 (slices_ContainsFunc_A Kv) slices_ContainsFunc_C [] (retQ Try.prog Try.f56.results Kv) [] (startS [(Value.slice s_0p s_0l s_0c), f_1]) w := by kernel_rfl
theorem slices_ContainsFunc_n (Kv : VW) : obAt (slices_ContainsFunc_O Kv) 0 = none := by kernel_rfl
theorem slices_ContainsFunc_h (Kv : VW) : ∀ k, holdsAt Try.prog slices_ContainsFunc_E 9 (slices_ContainsFunc_O Kv) k := fun _ => holdsAt_ge (slices_ContainsFunc_n Kv) (Nat.zero_le _)
theorem slices_ContainsFunc_ok : Sound Try.prog 56 slices_ContainsFunc_S := ⟨Try.call56, fun vs w Kv h => by
  unfold slices_ContainsFunc_S at h
  split at h
  · have h := h.out
    rw [slices_ContainsFunc_e] at h
    exact calls_sound (Γ := slices_ContainsFunc_E) progMixed ⟨.inl slices_IndexFunc_ok, trivial⟩ Try.func56 (code := slices_ContainsFunc_C) (by kernel_rfl) (slices_ContainsFunc_A Kv) Kv (holds_all (slices_ContainsFunc_h Kv)) (Nat.le_of_ble_eq_true (by kernel_rfl)) h
  · exact h.elim⟩
/-! Cb_all -/
def Cb_all_sd (l_0 : Sl) (ok_1 : Value) (K : Bool -> World -> Prop) (w : World) : Prop :=
  let w1 := w.alloc (Obj.cells (Value.cells ok_1) 71)
  slices_ContainsFunc_sh l_0 (Value.func (.func 57) #[] #[(Value.pointer (some (Addr.mk w.heap.size 0 none)))]) (fun r3 w2 => K (!r3) w2) w1
structure Cb_all_sh (l_0 : Sl) (ok_1 : Value) (K : Bool -> World -> Prop) (w : World) : Prop where
  out : Cb_all_sd l_0 ok_1 K w
noncomputable def Cb_all_S : Pw.Spec := fun vs w Kv =>
  match vs with
  | [.slice l_0p l_0l l_0c, ok_1] => Cb_all_sh ⟨l_0p, l_0l, l_0c⟩ ok_1 (fun r0 w' => Kv (Value.bool r0) w') w
  | _ => False
noncomputable def Cb_all_E : Pw.Env := [(56, slices_ContainsFunc_S)]
noncomputable def Cb_all_C : Code := (Try.f39.body).getD .skip
noncomputable def Cb_all_A (_Kv : VW) : Pw.A :=
  (A.seq (A.reg (Pw.rn 2 RA.done))
   (A.seq (A.reg (Pw.rn 5 RA.done))
   A.leaf))
noncomputable def Cb_all_O (Kv : VW) : List Ob := (obs Try.prog Cb_all_E 9 (Cb_all_A Kv) Cb_all_C (fun _ => retQ Try.prog Try.f39.results Kv))
theorem Cb_all_e (Kv : VW) (l_0p : Option Addr) (l_0l l_0c : Nat) (ok_1 : Value) (w : World) : Cb_all_sd ⟨l_0p, l_0l, l_0c⟩ ok_1 (fun r0 w' => Kv (Value.bool r0) w') w = W Try.prog Cb_all_E 9 (Cb_all_A Kv) Cb_all_C [] (retQ Try.prog Try.f39.results Kv) [] (startS [(Value.slice l_0p l_0l l_0c), ok_1]) w := by kernel_rfl
theorem Cb_all_n (Kv : VW) : obAt (Cb_all_O Kv) 0 = none := by kernel_rfl
theorem Cb_all_h (Kv : VW) : ∀ k, holdsAt Try.prog Cb_all_E 9 (Cb_all_O Kv) k := fun _ => holdsAt_ge (Cb_all_n Kv) (Nat.zero_le _)
theorem Cb_all_ok : Sound Try.prog 39 Cb_all_S := ⟨Try.call39, fun vs w Kv h => by
  unfold Cb_all_S at h
  split at h
  · have h := h.out
    rw [Cb_all_e] at h
    exact calls_sound (Γ := Cb_all_E) progMixed ⟨.inl slices_ContainsFunc_ok, trivial⟩ Try.func39 (code := Cb_all_C) (by kernel_rfl) (Cb_all_A Kv) Kv (holds_all (Cb_all_h Kv)) (Nat.le_of_ble_eq_true (by kernel_rfl)) h
  · exact h.elim⟩
/-! Cb_right_3 -/
def Cb_right_3_sd (d_0_0 : Int) (d_0_1 : Sl) (d_0_2 : Int) (t_1 : Addr) (K : Bool -> World -> Prop) (w : World) : Prop :=
  let w1 := w.alloc (Obj.cells #[(Value.int .i64 d_0_0), (Value.slice d_0_1.p d_0_1.l d_0_1.c), (Value.int .i64 d_0_2)] 58)
  ∃ x2 : Sl, w1.cell? (Addr.mk w.heap.size 1 none) = some (Value.slice x2.p x2.l x2.c) /\ cnd (decide ((x2.l : Int) > (0 : Int)))
    (∃ x3 : Sl, w1.cell? (Addr.mk w.heap.size 1 none) = some (Value.slice x3.p x3.l x3.c) /\ Cb_distinct_sh x3 (fun r5 w4 => cnd r5
    (∃ x6 : Sl, w4.cell? (Addr.mk w.heap.size 1 none) = some (Value.slice x6.p x6.l x6.c) /\ ∃ x7 : Value, w4.cell? t_1 = some x7 /\ Cb_all_sh x6 x7 (fun r9 w8 => cnd r9
    (∃ x10 : Int, w8.cell? (Addr.mk w.heap.size 2 none) = some (Value.int .i64 x10) /\ Cb_within_sh x10 (1000000000 : Int) (fun r12 w11 => K r12 w11) w8)
    (K false w8)) w4)
    (K false w4)) w1)
    (K false w1)
structure Cb_right_3_sh (d_0_0 : Int) (d_0_1 : Sl) (d_0_2 : Int) (t_1 : Addr) (K : Bool -> World -> Prop) (w : World) : Prop where
  out : Cb_right_3_sd d_0_0 d_0_1 d_0_2 t_1 K w
noncomputable def Cb_right_3_S : Pw.Spec := fun vs w Kv =>
  match vs with
  | [.agg ⟨[.int .i64 d_0_0, .slice d_0_1p d_0_1l d_0_1c, .int .i64 d_0_2]⟩, .pointer (some t_1)] => Cb_right_3_sh d_0_0 ⟨d_0_1p, d_0_1l, d_0_1c⟩ d_0_2 t_1 (fun r0 w' => Kv (Value.bool r0) w') w
  | _ => False
noncomputable def Cb_right_3_E : Pw.Env := [(21, Cb_within_S), (38, Cb_distinct_S), (39, Cb_all_S)]
noncomputable def Cb_right_3_C : Code := (Try.f37.body).getD .skip
noncomputable def Cb_right_3_A (_Kv : VW) : Pw.A :=
  (A.seq (A.reg (Pw.rn 2 RA.done))
   (A.seq (A.reg (Pw.rn 5 (RA.spl 8 (Pw.rn 5 (RA.spl 13 (Pw.rn 6 (RA.spl 19 (Pw.rn 5 RA.done) (Pw.sk 3 (Pw.rn 2 RA.done)))) (Pw.sk 4 (Pw.rn 2 (Pw.sk 3 (Pw.rn 2 RA.done)))))) (Pw.sk 3 (Pw.rn 2 (Pw.sk 4 (Pw.rn 2 (Pw.sk 3 (Pw.rn 2 RA.done)))))))))
   A.leaf))
noncomputable def Cb_right_3_O (Kv : VW) : List Ob := (obs Try.prog Cb_right_3_E 24 (Cb_right_3_A Kv) Cb_right_3_C (fun _ => retQ Try.prog Try.f37.results Kv))
theorem Cb_right_3_e (Kv : VW) (d_0_0 : Int) (d_0_1p : Option Addr) (d_0_1l d_0_1c : Nat) (d_0_2 : Int) (t_1 : Addr) (w : World) : Cb_right_3_sd d_0_0 ⟨d_0_1p, d_0_1l, d_0_1c⟩ d_0_2 t_1 (fun r0 w' => Kv (Value.bool r0) w') w = W Try.prog Cb_right_3_E 24 (Cb_right_3_A Kv) Cb_right_3_C [] (retQ Try.prog Try.f37.results Kv) [] (startS [(Value.agg #[(Value.int .i64 d_0_0), (Value.slice d_0_1p d_0_1l d_0_1c), (Value.int .i64 d_0_2)]), (Value.pointer (some t_1))]) w := by kernel_rfl
theorem Cb_right_3_n (Kv : VW) : obAt (Cb_right_3_O Kv) 0 = none := by kernel_rfl
theorem Cb_right_3_h (Kv : VW) : ∀ k, holdsAt Try.prog Cb_right_3_E 24 (Cb_right_3_O Kv) k := fun _ => holdsAt_ge (Cb_right_3_n Kv) (Nat.zero_le _)
theorem Cb_right_3_ok : Sound Try.prog 37 Cb_right_3_S := ⟨Try.call37, fun vs w Kv h => by
  unfold Cb_right_3_S at h
  split at h
  · have h := h.out
    rw [Cb_right_3_e] at h
    exact calls_sound (Γ := Cb_right_3_E) progMixed ⟨.inl Cb_within_ok, .inl Cb_distinct_ok, .inl Cb_all_ok, trivial⟩ Try.func37 (code := Cb_right_3_C) (by kernel_rfl) (Cb_right_3_A Kv) Kv (holds_all (Cb_right_3_h Kv)) (Nat.le_of_ble_eq_true (by kernel_rfl)) h
  · exact h.elim⟩
/-! Cb_all_1_apiChoice -/
def Cb_all_1_apiChoice_sd (x_0_0 x_0_1 : Int) (x_0_2 x_0_3 : Int) (t_1 : Addr) (K : Bool -> World -> Prop) (w : World) : Prop :=
  let w1 := w.alloc (Obj.cells #[(Value.int .i64 x_0_0), (Value.int .i64 x_0_1), (Value.int .i64 x_0_2), (Value.int .i64 x_0_3)] 56)
  ∃ x2 : Value, w1.cell? t_1 = some x2 /\ ∃ x3 : Int, w1.cell? (Addr.mk w.heap.size 0 none) = some (Value.int .i64 x3) /\ ∃ x4 : Int, w1.cell? (Addr.mk w.heap.size 1 none) = some (Value.int .i64 x4) /\ ∃ x5 : Int, w1.cell? (Addr.mk w.heap.size 2 none) = some (Value.int .i64 x5) /\ ∃ x6 : Int, w1.cell? (Addr.mk w.heap.size 3 none) = some (Value.int .i64 x6) /\ CallV Try.prog x2 [(Value.agg #[(Value.int .i64 x3), (Value.int .i64 x4), (Value.int .i64 x5), (Value.int .i64 x6)])] w1 fun u7 w8 => ∃ x9 : Bool, u7 = (Value.bool x9) /\ K (!x9) w8
structure Cb_all_1_apiChoice_sh (x_0_0 x_0_1 : Int) (x_0_2 x_0_3 : Int) (t_1 : Addr) (K : Bool -> World -> Prop) (w : World) : Prop where
  out : Cb_all_1_apiChoice_sd x_0_0 x_0_1 x_0_2 x_0_3 t_1 K w
noncomputable def Cb_all_1_apiChoice_S : Pw.Spec := fun vs w Kv =>
  match vs with
  | [.agg ⟨[.int .i64 x_0_0, .int .i64 x_0_1, .int .i64 x_0_2, .int .i64 x_0_3]⟩, .pointer (some t_1)] => Cb_all_1_apiChoice_sh x_0_0 x_0_1 x_0_2 x_0_3 t_1 (fun r0 w' => Kv (Value.bool r0) w') w
  | _ => False
noncomputable def Cb_all_1_apiChoice_E : Pw.Env := []
noncomputable def Cb_all_1_apiChoice_C : Code := (Try.f59.body).getD .skip
noncomputable def Cb_all_1_apiChoice_A (_Kv : VW) : Pw.A :=
  (A.seq (A.reg (Pw.rn 2 RA.done))
   (A.seq (A.reg (Pw.rn 2 (RA.dyn (Value.bool false) (Pw.rn 2 RA.done))))
   A.leaf))
noncomputable def Cb_all_1_apiChoice_O (Kv : VW) : List Ob := (obs Try.prog Cb_all_1_apiChoice_E 8 (Cb_all_1_apiChoice_A Kv) Cb_all_1_apiChoice_C (fun _ => retQ Try.prog Try.f59.results Kv))
theorem Cb_all_1_apiChoice_e (Kv : VW) (x_0_0 x_0_1 : Int) (x_0_2 x_0_3 : Int) (t_1 : Addr) (w : World) : Cb_all_1_apiChoice_sd x_0_0 x_0_1 x_0_2 x_0_3 t_1 (fun r0 w' => Kv (Value.bool r0) w') w = W Try.prog Cb_all_1_apiChoice_E 8 (Cb_all_1_apiChoice_A Kv) Cb_all_1_apiChoice_C [] (retQ Try.prog Try.f59.results Kv) [] (startS [(Value.agg #[(Value.int .i64 x_0_0), (Value.int .i64 x_0_1), (Value.int .i64 x_0_2), (Value.int .i64 x_0_3)]), (Value.pointer (some t_1))]) w := by kernel_rfl
theorem Cb_all_1_apiChoice_n (Kv : VW) : obAt (Cb_all_1_apiChoice_O Kv) 0 = none := by kernel_rfl
theorem Cb_all_1_apiChoice_h (Kv : VW) : ∀ k, holdsAt Try.prog Cb_all_1_apiChoice_E 8 (Cb_all_1_apiChoice_O Kv) k := fun _ => holdsAt_ge (Cb_all_1_apiChoice_n Kv) (Nat.zero_le _)
theorem Cb_all_1_apiChoice_ok : Sound Try.prog 59 Cb_all_1_apiChoice_S := ⟨Try.call59, fun vs w Kv h => by
  unfold Cb_all_1_apiChoice_S at h
  split at h
  · have h := h.out
    rw [Cb_all_1_apiChoice_e] at h
    exact calls_sound (Γ := Cb_all_1_apiChoice_E) progMixed trivial Try.func59 (code := Cb_all_1_apiChoice_C) (by kernel_rfl) (Cb_all_1_apiChoice_A Kv) Kv (holds_all (Cb_all_1_apiChoice_h Kv)) (Nat.le_of_ble_eq_true (by kernel_rfl)) h
  · exact h.elim⟩
/-! slices_IndexFunc_apiChoice -/
def slices_IndexFunc_apiChoice_b0 (s_0 : Sl) (f_1 : Value) (t_7 t_8 : Int) (N0 : Sl -> Value -> Int -> Int -> World -> Prop) (K : Int -> World -> Prop) (w : World) : Prop :=
  cnd (decide (t_8 < t_7))
    (nz s_0.p fun a1 => (0 <= t_8 /\ t_8 < (s_0.l : Nat)) /\ ∃ x2 : Int, w.cell? (a1.add (t_8.toNat * 4)) = some (Value.int .i64 x2) /\ ∃ x3 : Int, w.cell? ((a1.add (t_8.toNat * 4)).add 1) = some (Value.int .i64 x3) /\ ∃ x4 : Int, w.cell? ((a1.add (t_8.toNat * 4)).add 2) = some (Value.int .i64 x4) /\ ∃ x5 : Int, w.cell? ((a1.add (t_8.toNat * 4)).add 3) = some (Value.int .i64 x5) /\ CallV Try.prog f_1 [(Value.agg #[(Value.int .i64 x2), (Value.int .i64 x3), (Value.int .i64 x4), (Value.int .i64 x5)])] w fun u6 w7 => ∃ x8 : Bool, u6 = (Value.bool x8) /\ cnd x8
    (K t_8 w7)
    (inR .i64 (t_8 + (1 : Int)) /\ N0 s_0 f_1 t_7 (t_8 + (1 : Int)) w7))
    (K (-1 : Int) w)
def slices_IndexFunc_apiChoice_l0d (s_0 : Sl) (f_1 : Value) (t_7 t_8 : Int) (K : Int -> World -> Prop) (w : World) : Prop :=
  ∃ (I : Int -> World -> Prop) (μ : Int -> World -> Nat), I t_8 w /\ ∀ (t_81 : Int) (w1 : World), I t_81 w1 ->
    slices_IndexFunc_apiChoice_b0 s_0 f_1 t_7 t_81 (fun s_0' f_1' t_7' t_8' w' => ((s_0' = s_0 /\ f_1' = f_1 /\ t_7' = t_7 /\ True) /\ I t_8' w') /\ μ t_8' w' < μ t_81 w1) K w1
structure slices_IndexFunc_apiChoice_l0 (s_0 : Sl) (f_1 : Value) (t_7 t_8 : Int) (K : Int -> World -> Prop) (w : World) : Prop where
  out : slices_IndexFunc_apiChoice_l0d s_0 f_1 t_7 t_8 K w
def slices_IndexFunc_apiChoice_sd (s_0 : Sl) (f_1 : Value) (K : Int -> World -> Prop) (w : World) : Prop :=
  slices_IndexFunc_apiChoice_l0 s_0 f_1 (s_0.l : Int) (0 : Int) K w
structure slices_IndexFunc_apiChoice_sh (s_0 : Sl) (f_1 : Value) (K : Int -> World -> Prop) (w : World) : Prop where
  out : slices_IndexFunc_apiChoice_sd s_0 f_1 K w
def slices_IndexFunc_apiChoice_P0 (Kv : VW) (ρ : Rho) (vs : List Value) (w : World) : Prop :=
  match ρ, vs with
  | _, [.slice s_0p s_0l s_0c, f_1, .int .i64 t_7, .int .i64 t_8] => slices_IndexFunc_apiChoice_l0 ⟨s_0p, s_0l, s_0c⟩ f_1 t_7 t_8 (fun r0 w' => Kv (Value.int .i64 r0) w') w
  | _, _ => False
noncomputable def slices_IndexFunc_apiChoice_S : Pw.Spec := fun vs w Kv =>
  match vs with
  | [.slice s_0p s_0l s_0c, f_1] => slices_IndexFunc_apiChoice_sh ⟨s_0p, s_0l, s_0c⟩ f_1 (fun r0 w' => Kv (Value.int .i64 r0) w') w
  | _ => False
noncomputable def slices_IndexFunc_apiChoice_E : Pw.Env := []
noncomputable def slices_IndexFunc_apiChoice_C : Code := (Try.f72.body).getD .skip
noncomputable def slices_IndexFunc_apiChoice_A (Kv : VW) : Pw.A :=
  (A.seq (A.reg (RA.run RA.done))
   (A.seq (A.seq (A.reg (Pw.rn 3 RA.done))
   (A.blk (A.loop [0, 1, 7, 8] (slices_IndexFunc_apiChoice_P0 Kv) (A.seq (A.reg (RA.run RA.done))
   (A.seq (A.cond A.leaf
   A.leaf)
   (A.seq (A.blk (A.seq (A.reg (Pw.rn 2 RA.done))
   (A.seq (A.reg (Pw.rn 5 (RA.dyn (Value.bool false) RA.done)))
   (A.cond (A.seq (A.reg (Pw.rn 2 RA.done))
   A.leaf)
   A.leaf))))
   (A.reg (Pw.rn 2 RA.done))))))))
   (A.seq (A.reg (RA.run RA.done))
   A.leaf)))
noncomputable def slices_IndexFunc_apiChoice_O (Kv : VW) : List Ob := (obs Try.prog slices_IndexFunc_apiChoice_E 19 (slices_IndexFunc_apiChoice_A Kv) slices_IndexFunc_apiChoice_C (fun _ => retQ Try.prog Try.f72.results Kv))
theorem slices_IndexFunc_apiChoice_e (Kv : VW) (s_0p : Option Addr) (s_0l s_0c : Nat) (f_1 : Value) (w : World) : slices_IndexFunc_apiChoice_sd ⟨s_0p, s_0l, s_0c⟩ f_1 (fun r0 w' => Kv (Value.int .i64 r0) w') w = W Try.prog slices_IndexFunc_apiChoice_E 19 (slices_IndexFunc_apiChoice_A Kv) slices_IndexFunc_apiChoice_C [] (retQ Try.prog Try.f72.results Kv) [] (startS [(Value.slice s_0p s_0l s_0c), f_1]) w := by kernel_rfl
theorem slices_IndexFunc_apiChoice_e0 (Kv : VW) (N0 : List Value -> World -> Prop) (ρ : Rho) (s_0p : Option Addr) (s_0l s_0c : Nat) (f_1 : Value) (t_7 t_8 : Int) (w : World) : slices_IndexFunc_apiChoice_b0 ⟨s_0p, s_0l, s_0c⟩ f_1 t_7 t_8 (fun s_0' f_1' t_7' t_8' w' => N0 [(Value.slice s_0'.p s_0'.l s_0'.c), f_1', (Value.int .i64 t_7'), (Value.int .i64 t_8')] w') (fun r0 w' => Kv (Value.int .i64 r0) w') w = goalAt Try.prog slices_IndexFunc_apiChoice_E 19 (slices_IndexFunc_apiChoice_O Kv) 0 (N0 :: ρ) [(Value.slice s_0p s_0l s_0c), f_1, (Value.int .i64 t_7), (Value.int .i64 t_8)] w := by kernel_rfl
theorem slices_IndexFunc_apiChoice_q0 (Kv : VW) (ρ : Rho) (vs : List Value) (w : World) : labAt (slices_IndexFunc_apiChoice_O Kv) 0 ρ vs w = slices_IndexFunc_apiChoice_P0 Kv ρ vs w := by kernel_rfl
def slices_IndexFunc_apiChoice_I0 (s_00 : Sl) (f_10 : Value) (t_70 : Int) (I : Int -> World -> Prop) (vs : List Value) (w : World) : Prop :=
  match vs with
  | [.slice s_0p s_0l s_0c, f_1, .int .i64 t_7, .int .i64 t_8] => (⟨s_0p, s_0l, s_0c⟩ = s_00 /\ f_1 = f_10 /\ t_7 = t_70 /\ True) /\ I t_8 w
  | _ => False
def slices_IndexFunc_apiChoice_M0 (μ : Int -> World -> Nat) (vs : List Value) (w : World) : Nat :=
  match vs with
  | [.slice _s_0p _s_0l _s_0c, _f_1, .int .i64 _t_7, .int .i64 t_8] => μ t_8 w
  | _ => 0
theorem slices_IndexFunc_apiChoice_h0 (Kv : VW) : holdsAt Try.prog slices_IndexFunc_apiChoice_E 19 (slices_IndexFunc_apiChoice_O Kv) 0 := holdsAt_loop (by kernel_rfl) (fun ρ vs w h => by
  rw [slices_IndexFunc_apiChoice_q0] at h
  unfold slices_IndexFunc_apiChoice_P0 at h
  split at h
  · rename_i ρt s_0p s_0l s_0c f_1 t_7 t_8
    obtain ⟨I, μ, h0, hr⟩ := h.out
    refine ⟨slices_IndexFunc_apiChoice_I0 ⟨s_0p, s_0l, s_0c⟩ f_1 t_7 I, slices_IndexFunc_apiChoice_M0 μ, ⟨⟨rfl, rfl, rfl, trivial⟩, h0⟩, fun vs w hI => ?_⟩
    unfold slices_IndexFunc_apiChoice_I0 at hI
    split at hI
    · obtain ⟨⟨h0, h1, h2, _⟩, hI⟩ := hI
      cases h0; cases h1; cases h2
      rw [← slices_IndexFunc_apiChoice_e0]
      exact hr _ _ hI
    · exact hI.elim
  · exact h.elim)
theorem slices_IndexFunc_apiChoice_n (Kv : VW) : obAt (slices_IndexFunc_apiChoice_O Kv) 1 = none := by kernel_rfl
theorem slices_IndexFunc_apiChoice_h (Kv : VW) : ∀ k, holdsAt Try.prog slices_IndexFunc_apiChoice_E 19 (slices_IndexFunc_apiChoice_O Kv) k := fun k => match k with
  | 0 => slices_IndexFunc_apiChoice_h0 Kv
  | _k + 1 => holdsAt_ge (slices_IndexFunc_apiChoice_n Kv) (Nat.le_add_left _ _)
theorem slices_IndexFunc_apiChoice_ok : Sound Try.prog 72 slices_IndexFunc_apiChoice_S := ⟨Try.call72, fun vs w Kv h => by
  unfold slices_IndexFunc_apiChoice_S at h
  split at h
  · have h := h.out
    rw [slices_IndexFunc_apiChoice_e] at h
    exact calls_sound (Γ := slices_IndexFunc_apiChoice_E) progMixed trivial Try.func72 (code := slices_IndexFunc_apiChoice_C) (by kernel_rfl) (slices_IndexFunc_apiChoice_A Kv) Kv (holds_all (slices_IndexFunc_apiChoice_h Kv)) (Nat.le_of_ble_eq_true (by kernel_rfl)) h
  · exact h.elim⟩
/-! slices_ContainsFunc_apiChoice -/
def slices_ContainsFunc_apiChoice_sd (s_0 : Sl) (f_1 : Value) (K : Bool -> World -> Prop) (w : World) : Prop :=
  slices_IndexFunc_apiChoice_sh s_0 f_1 (fun r2 w1 => K (decide (r2 >= (0 : Int))) w1) w
structure slices_ContainsFunc_apiChoice_sh (s_0 : Sl) (f_1 : Value) (K : Bool -> World -> Prop) (w : World) : Prop where
  out : slices_ContainsFunc_apiChoice_sd s_0 f_1 K w
noncomputable def slices_ContainsFunc_apiChoice_S : Pw.Spec := fun vs w Kv =>
  match vs with
  | [.slice s_0p s_0l s_0c, f_1] => slices_ContainsFunc_apiChoice_sh ⟨s_0p, s_0l, s_0c⟩ f_1 (fun r0 w' => Kv (Value.bool r0) w') w
  | _ => False
noncomputable def slices_ContainsFunc_apiChoice_E : Pw.Env := [(72, slices_IndexFunc_apiChoice_S)]
noncomputable def slices_ContainsFunc_apiChoice_C : Code := (Try.f58.body).getD .skip
noncomputable def slices_ContainsFunc_apiChoice_A (_Kv : VW) : Pw.A :=
  (A.seq (A.reg (RA.run RA.done))
   (A.seq (A.reg (Pw.rn 5 RA.done))
   A.leaf))
noncomputable def slices_ContainsFunc_apiChoice_O (Kv : VW) : List Ob := (obs Try.prog slices_ContainsFunc_apiChoice_E 9 (slices_ContainsFunc_apiChoice_A Kv) slices_ContainsFunc_apiChoice_C (fun _ => retQ Try.prog Try.f58.results Kv))
theorem slices_ContainsFunc_apiChoice_e (Kv : VW) (s_0p : Option Addr) (s_0l s_0c : Nat) (f_1 : Value) (w : World) : slices_ContainsFunc_apiChoice_sd ⟨s_0p, s_0l, s_0c⟩ f_1 (fun r0 w' => Kv (Value.bool r0) w') w = W Try.prog slices_ContainsFunc_apiChoice_E 9 (slices_ContainsFunc_apiChoice_A Kv) slices_ContainsFunc_apiChoice_C [] (retQ Try.prog Try.f58.results Kv) [] (startS [(Value.slice s_0p s_0l s_0c), f_1]) w := by kernel_rfl
theorem slices_ContainsFunc_apiChoice_n (Kv : VW) : obAt (slices_ContainsFunc_apiChoice_O Kv) 0 = none := by kernel_rfl
theorem slices_ContainsFunc_apiChoice_h (Kv : VW) : ∀ k, holdsAt Try.prog slices_ContainsFunc_apiChoice_E 9 (slices_ContainsFunc_apiChoice_O Kv) k := fun _ => holdsAt_ge (slices_ContainsFunc_apiChoice_n Kv) (Nat.zero_le _)
theorem slices_ContainsFunc_apiChoice_ok : Sound Try.prog 58 slices_ContainsFunc_apiChoice_S := ⟨Try.call58, fun vs w Kv h => by
  unfold slices_ContainsFunc_apiChoice_S at h
  split at h
  · have h := h.out
    rw [slices_ContainsFunc_apiChoice_e] at h
    exact calls_sound (Γ := slices_ContainsFunc_apiChoice_E) progMixed ⟨.inl slices_IndexFunc_apiChoice_ok, trivial⟩ Try.func58 (code := slices_ContainsFunc_apiChoice_C) (by kernel_rfl) (slices_ContainsFunc_apiChoice_A Kv) Kv (holds_all (slices_ContainsFunc_apiChoice_h Kv)) (Nat.le_of_ble_eq_true (by kernel_rfl)) h
  · exact h.elim⟩
/-! Cb_all_apiChoice -/
def Cb_all_apiChoice_sd (l_0 : Sl) (ok_1 : Value) (K : Bool -> World -> Prop) (w : World) : Prop :=
  let w1 := w.alloc (Obj.cells (Value.cells ok_1) 72)
  slices_ContainsFunc_apiChoice_sh l_0 (Value.func (.func 59) #[] #[(Value.pointer (some (Addr.mk w.heap.size 0 none)))]) (fun r3 w2 => K (!r3) w2) w1
structure Cb_all_apiChoice_sh (l_0 : Sl) (ok_1 : Value) (K : Bool -> World -> Prop) (w : World) : Prop where
  out : Cb_all_apiChoice_sd l_0 ok_1 K w
noncomputable def Cb_all_apiChoice_S : Pw.Spec := fun vs w Kv =>
  match vs with
  | [.slice l_0p l_0l l_0c, ok_1] => Cb_all_apiChoice_sh ⟨l_0p, l_0l, l_0c⟩ ok_1 (fun r0 w' => Kv (Value.bool r0) w') w
  | _ => False
noncomputable def Cb_all_apiChoice_E : Pw.Env := [(58, slices_ContainsFunc_apiChoice_S)]
noncomputable def Cb_all_apiChoice_C : Code := (Try.f40.body).getD .skip
noncomputable def Cb_all_apiChoice_A (_Kv : VW) : Pw.A :=
  (A.seq (A.reg (Pw.rn 2 RA.done))
   (A.seq (A.reg (Pw.rn 5 RA.done))
   A.leaf))
noncomputable def Cb_all_apiChoice_O (Kv : VW) : List Ob := (obs Try.prog Cb_all_apiChoice_E 9 (Cb_all_apiChoice_A Kv) Cb_all_apiChoice_C (fun _ => retQ Try.prog Try.f40.results Kv))
theorem Cb_all_apiChoice_e (Kv : VW) (l_0p : Option Addr) (l_0l l_0c : Nat) (ok_1 : Value) (w : World) : Cb_all_apiChoice_sd ⟨l_0p, l_0l, l_0c⟩ ok_1 (fun r0 w' => Kv (Value.bool r0) w') w = W Try.prog Cb_all_apiChoice_E 9 (Cb_all_apiChoice_A Kv) Cb_all_apiChoice_C [] (retQ Try.prog Try.f40.results Kv) [] (startS [(Value.slice l_0p l_0l l_0c), ok_1]) w := by kernel_rfl
theorem Cb_all_apiChoice_n (Kv : VW) : obAt (Cb_all_apiChoice_O Kv) 0 = none := by kernel_rfl
theorem Cb_all_apiChoice_h (Kv : VW) : ∀ k, holdsAt Try.prog Cb_all_apiChoice_E 9 (Cb_all_apiChoice_O Kv) k := fun _ => holdsAt_ge (Cb_all_apiChoice_n Kv) (Nat.zero_le _)
theorem Cb_all_apiChoice_ok : Sound Try.prog 40 Cb_all_apiChoice_S := ⟨Try.call40, fun vs w Kv h => by
  unfold Cb_all_apiChoice_S at h
  split at h
  · have h := h.out
    rw [Cb_all_apiChoice_e] at h
    exact calls_sound (Γ := Cb_all_apiChoice_E) progMixed ⟨.inl slices_ContainsFunc_apiChoice_ok, trivial⟩ Try.func40 (code := Cb_all_apiChoice_C) (by kernel_rfl) (Cb_all_apiChoice_A Kv) Kv (holds_all (Cb_all_apiChoice_h Kv)) (Nat.le_of_ble_eq_true (by kernel_rfl)) h
  · exact h.elim⟩
/-! Cb_all_1_apiDeal -/
def Cb_all_1_apiDeal_sd (x_0_0 : Int) (x_0_1 : Sl) (x_0_2 : Int) (t_1 : Addr) (K : Bool -> World -> Prop) (w : World) : Prop :=
  let w1 := w.alloc (Obj.cells #[(Value.int .i64 x_0_0), (Value.slice x_0_1.p x_0_1.l x_0_1.c), (Value.int .i64 x_0_2)] 58)
  ∃ x2 : Value, w1.cell? t_1 = some x2 /\ ∃ x3 : Int, w1.cell? (Addr.mk w.heap.size 0 none) = some (Value.int .i64 x3) /\ ∃ x4 : Sl, w1.cell? (Addr.mk w.heap.size 1 none) = some (Value.slice x4.p x4.l x4.c) /\ ∃ x5 : Int, w1.cell? (Addr.mk w.heap.size 2 none) = some (Value.int .i64 x5) /\ CallV Try.prog x2 [(Value.agg #[(Value.int .i64 x3), (Value.slice x4.p x4.l x4.c), (Value.int .i64 x5)])] w1 fun u6 w7 => ∃ x8 : Bool, u6 = (Value.bool x8) /\ K (!x8) w7
structure Cb_all_1_apiDeal_sh (x_0_0 : Int) (x_0_1 : Sl) (x_0_2 : Int) (t_1 : Addr) (K : Bool -> World -> Prop) (w : World) : Prop where
  out : Cb_all_1_apiDeal_sd x_0_0 x_0_1 x_0_2 t_1 K w
noncomputable def Cb_all_1_apiDeal_S : Pw.Spec := fun vs w Kv =>
  match vs with
  | [.agg ⟨[.int .i64 x_0_0, .slice x_0_1p x_0_1l x_0_1c, .int .i64 x_0_2]⟩, .pointer (some t_1)] => Cb_all_1_apiDeal_sh x_0_0 ⟨x_0_1p, x_0_1l, x_0_1c⟩ x_0_2 t_1 (fun r0 w' => Kv (Value.bool r0) w') w
  | _ => False
noncomputable def Cb_all_1_apiDeal_E : Pw.Env := []
noncomputable def Cb_all_1_apiDeal_C : Code := (Try.f61.body).getD .skip
noncomputable def Cb_all_1_apiDeal_A (_Kv : VW) : Pw.A :=
  (A.seq (A.reg (Pw.rn 2 RA.done))
   (A.seq (A.reg (Pw.rn 2 (RA.dyn (Value.bool false) (Pw.rn 2 RA.done))))
   A.leaf))
noncomputable def Cb_all_1_apiDeal_O (Kv : VW) : List Ob := (obs Try.prog Cb_all_1_apiDeal_E 8 (Cb_all_1_apiDeal_A Kv) Cb_all_1_apiDeal_C (fun _ => retQ Try.prog Try.f61.results Kv))
theorem Cb_all_1_apiDeal_e (Kv : VW) (x_0_0 : Int) (x_0_1p : Option Addr) (x_0_1l x_0_1c : Nat) (x_0_2 : Int) (t_1 : Addr) (w : World) : Cb_all_1_apiDeal_sd x_0_0 ⟨x_0_1p, x_0_1l, x_0_1c⟩ x_0_2 t_1 (fun r0 w' => Kv (Value.bool r0) w') w = W Try.prog Cb_all_1_apiDeal_E 8 (Cb_all_1_apiDeal_A Kv) Cb_all_1_apiDeal_C [] (retQ Try.prog Try.f61.results Kv) [] (startS [(Value.agg #[(Value.int .i64 x_0_0), (Value.slice x_0_1p x_0_1l x_0_1c), (Value.int .i64 x_0_2)]), (Value.pointer (some t_1))]) w := by kernel_rfl
theorem Cb_all_1_apiDeal_n (Kv : VW) : obAt (Cb_all_1_apiDeal_O Kv) 0 = none := by kernel_rfl
theorem Cb_all_1_apiDeal_h (Kv : VW) : ∀ k, holdsAt Try.prog Cb_all_1_apiDeal_E 8 (Cb_all_1_apiDeal_O Kv) k := fun _ => holdsAt_ge (Cb_all_1_apiDeal_n Kv) (Nat.zero_le _)
theorem Cb_all_1_apiDeal_ok : Sound Try.prog 61 Cb_all_1_apiDeal_S := ⟨Try.call61, fun vs w Kv h => by
  unfold Cb_all_1_apiDeal_S at h
  split at h
  · have h := h.out
    rw [Cb_all_1_apiDeal_e] at h
    exact calls_sound (Γ := Cb_all_1_apiDeal_E) progMixed trivial Try.func61 (code := Cb_all_1_apiDeal_C) (by kernel_rfl) (Cb_all_1_apiDeal_A Kv) Kv (holds_all (Cb_all_1_apiDeal_h Kv)) (Nat.le_of_ble_eq_true (by kernel_rfl)) h
  · exact h.elim⟩
/-! slices_IndexFunc_apiDeal -/
def slices_IndexFunc_apiDeal_b0 (s_0 : Sl) (f_1 : Value) (t_7 t_8 : Int) (N0 : Sl -> Value -> Int -> Int -> World -> Prop) (K : Int -> World -> Prop) (w : World) : Prop :=
  cnd (decide (t_8 < t_7))
    (nz s_0.p fun a1 => (0 <= t_8 /\ t_8 < (s_0.l : Nat)) /\ ∃ x2 : Int, w.cell? (a1.add (t_8.toNat * 3)) = some (Value.int .i64 x2) /\ ∃ x3 : Sl, w.cell? ((a1.add (t_8.toNat * 3)).add 1) = some (Value.slice x3.p x3.l x3.c) /\ ∃ x4 : Int, w.cell? ((a1.add (t_8.toNat * 3)).add 2) = some (Value.int .i64 x4) /\ CallV Try.prog f_1 [(Value.agg #[(Value.int .i64 x2), (Value.slice x3.p x3.l x3.c), (Value.int .i64 x4)])] w fun u5 w6 => ∃ x7 : Bool, u5 = (Value.bool x7) /\ cnd x7
    (K t_8 w6)
    (inR .i64 (t_8 + (1 : Int)) /\ N0 s_0 f_1 t_7 (t_8 + (1 : Int)) w6))
    (K (-1 : Int) w)
def slices_IndexFunc_apiDeal_l0d (s_0 : Sl) (f_1 : Value) (t_7 t_8 : Int) (K : Int -> World -> Prop) (w : World) : Prop :=
  ∃ (I : Int -> World -> Prop) (μ : Int -> World -> Nat), I t_8 w /\ ∀ (t_81 : Int) (w1 : World), I t_81 w1 ->
    slices_IndexFunc_apiDeal_b0 s_0 f_1 t_7 t_81 (fun s_0' f_1' t_7' t_8' w' => ((s_0' = s_0 /\ f_1' = f_1 /\ t_7' = t_7 /\ True) /\ I t_8' w') /\ μ t_8' w' < μ t_81 w1) K w1
structure slices_IndexFunc_apiDeal_l0 (s_0 : Sl) (f_1 : Value) (t_7 t_8 : Int) (K : Int -> World -> Prop) (w : World) : Prop where
  out : slices_IndexFunc_apiDeal_l0d s_0 f_1 t_7 t_8 K w
def slices_IndexFunc_apiDeal_sd (s_0 : Sl) (f_1 : Value) (K : Int -> World -> Prop) (w : World) : Prop :=
  slices_IndexFunc_apiDeal_l0 s_0 f_1 (s_0.l : Int) (0 : Int) K w
structure slices_IndexFunc_apiDeal_sh (s_0 : Sl) (f_1 : Value) (K : Int -> World -> Prop) (w : World) : Prop where
  out : slices_IndexFunc_apiDeal_sd s_0 f_1 K w
def slices_IndexFunc_apiDeal_P0 (Kv : VW) (ρ : Rho) (vs : List Value) (w : World) : Prop :=
  match ρ, vs with
  | _, [.slice s_0p s_0l s_0c, f_1, .int .i64 t_7, .int .i64 t_8] => slices_IndexFunc_apiDeal_l0 ⟨s_0p, s_0l, s_0c⟩ f_1 t_7 t_8 (fun r0 w' => Kv (Value.int .i64 r0) w') w
  | _, _ => False
noncomputable def slices_IndexFunc_apiDeal_S : Pw.Spec := fun vs w Kv =>
  match vs with
  | [.slice s_0p s_0l s_0c, f_1] => slices_IndexFunc_apiDeal_sh ⟨s_0p, s_0l, s_0c⟩ f_1 (fun r0 w' => Kv (Value.int .i64 r0) w') w
  | _ => False
noncomputable def slices_IndexFunc_apiDeal_E : Pw.Env := []
noncomputable def slices_IndexFunc_apiDeal_C : Code := (Try.f73.body).getD .skip
noncomputable def slices_IndexFunc_apiDeal_A (Kv : VW) : Pw.A :=
  (A.seq (A.reg (RA.run RA.done))
   (A.seq (A.seq (A.reg (Pw.rn 3 RA.done))
   (A.blk (A.loop [0, 1, 7, 8] (slices_IndexFunc_apiDeal_P0 Kv) (A.seq (A.reg (RA.run RA.done))
   (A.seq (A.cond A.leaf
   A.leaf)
   (A.seq (A.blk (A.seq (A.reg (Pw.rn 2 RA.done))
   (A.seq (A.reg (Pw.rn 5 (RA.dyn (Value.bool false) RA.done)))
   (A.cond (A.seq (A.reg (Pw.rn 2 RA.done))
   A.leaf)
   A.leaf))))
   (A.reg (Pw.rn 2 RA.done))))))))
   (A.seq (A.reg (RA.run RA.done))
   A.leaf)))
noncomputable def slices_IndexFunc_apiDeal_O (Kv : VW) : List Ob := (obs Try.prog slices_IndexFunc_apiDeal_E 19 (slices_IndexFunc_apiDeal_A Kv) slices_IndexFunc_apiDeal_C (fun _ => retQ Try.prog Try.f73.results Kv))
theorem slices_IndexFunc_apiDeal_e (Kv : VW) (s_0p : Option Addr) (s_0l s_0c : Nat) (f_1 : Value) (w : World) : slices_IndexFunc_apiDeal_sd ⟨s_0p, s_0l, s_0c⟩ f_1 (fun r0 w' => Kv (Value.int .i64 r0) w') w = W Try.prog slices_IndexFunc_apiDeal_E 19 (slices_IndexFunc_apiDeal_A Kv) slices_IndexFunc_apiDeal_C [] (retQ Try.prog Try.f73.results Kv) [] (startS [(Value.slice s_0p s_0l s_0c), f_1]) w := by kernel_rfl
theorem slices_IndexFunc_apiDeal_e0 (Kv : VW) (N0 : List Value -> World -> Prop) (ρ : Rho) (s_0p : Option Addr) (s_0l s_0c : Nat) (f_1 : Value) (t_7 t_8 : Int) (w : World) : slices_IndexFunc_apiDeal_b0 ⟨s_0p, s_0l, s_0c⟩ f_1 t_7 t_8 (fun s_0' f_1' t_7' t_8' w' => N0 [(Value.slice s_0'.p s_0'.l s_0'.c), f_1', (Value.int .i64 t_7'), (Value.int .i64 t_8')] w') (fun r0 w' => Kv (Value.int .i64 r0) w') w = goalAt Try.prog slices_IndexFunc_apiDeal_E 19 (slices_IndexFunc_apiDeal_O Kv) 0 (N0 :: ρ) [(Value.slice s_0p s_0l s_0c), f_1, (Value.int .i64 t_7), (Value.int .i64 t_8)] w := by kernel_rfl
theorem slices_IndexFunc_apiDeal_q0 (Kv : VW) (ρ : Rho) (vs : List Value) (w : World) : labAt (slices_IndexFunc_apiDeal_O Kv) 0 ρ vs w = slices_IndexFunc_apiDeal_P0 Kv ρ vs w := by kernel_rfl
def slices_IndexFunc_apiDeal_I0 (s_00 : Sl) (f_10 : Value) (t_70 : Int) (I : Int -> World -> Prop) (vs : List Value) (w : World) : Prop :=
  match vs with
  | [.slice s_0p s_0l s_0c, f_1, .int .i64 t_7, .int .i64 t_8] => (⟨s_0p, s_0l, s_0c⟩ = s_00 /\ f_1 = f_10 /\ t_7 = t_70 /\ True) /\ I t_8 w
  | _ => False
def slices_IndexFunc_apiDeal_M0 (μ : Int -> World -> Nat) (vs : List Value) (w : World) : Nat :=
  match vs with
  | [.slice _s_0p _s_0l _s_0c, _f_1, .int .i64 _t_7, .int .i64 t_8] => μ t_8 w
  | _ => 0
theorem slices_IndexFunc_apiDeal_h0 (Kv : VW) : holdsAt Try.prog slices_IndexFunc_apiDeal_E 19 (slices_IndexFunc_apiDeal_O Kv) 0 := holdsAt_loop (by kernel_rfl) (fun ρ vs w h => by
  rw [slices_IndexFunc_apiDeal_q0] at h
  unfold slices_IndexFunc_apiDeal_P0 at h
  split at h
  · rename_i ρt s_0p s_0l s_0c f_1 t_7 t_8
    obtain ⟨I, μ, h0, hr⟩ := h.out
    refine ⟨slices_IndexFunc_apiDeal_I0 ⟨s_0p, s_0l, s_0c⟩ f_1 t_7 I, slices_IndexFunc_apiDeal_M0 μ, ⟨⟨rfl, rfl, rfl, trivial⟩, h0⟩, fun vs w hI => ?_⟩
    unfold slices_IndexFunc_apiDeal_I0 at hI
    split at hI
    · obtain ⟨⟨h0, h1, h2, _⟩, hI⟩ := hI
      cases h0; cases h1; cases h2
      rw [← slices_IndexFunc_apiDeal_e0]
      exact hr _ _ hI
    · exact hI.elim
  · exact h.elim)
theorem slices_IndexFunc_apiDeal_n (Kv : VW) : obAt (slices_IndexFunc_apiDeal_O Kv) 1 = none := by kernel_rfl
theorem slices_IndexFunc_apiDeal_h (Kv : VW) : ∀ k, holdsAt Try.prog slices_IndexFunc_apiDeal_E 19 (slices_IndexFunc_apiDeal_O Kv) k := fun k => match k with
  | 0 => slices_IndexFunc_apiDeal_h0 Kv
  | _k + 1 => holdsAt_ge (slices_IndexFunc_apiDeal_n Kv) (Nat.le_add_left _ _)
theorem slices_IndexFunc_apiDeal_ok : Sound Try.prog 73 slices_IndexFunc_apiDeal_S := ⟨Try.call73, fun vs w Kv h => by
  unfold slices_IndexFunc_apiDeal_S at h
  split at h
  · have h := h.out
    rw [slices_IndexFunc_apiDeal_e] at h
    exact calls_sound (Γ := slices_IndexFunc_apiDeal_E) progMixed trivial Try.func73 (code := slices_IndexFunc_apiDeal_C) (by kernel_rfl) (slices_IndexFunc_apiDeal_A Kv) Kv (holds_all (slices_IndexFunc_apiDeal_h Kv)) (Nat.le_of_ble_eq_true (by kernel_rfl)) h
  · exact h.elim⟩
/-! slices_ContainsFunc_apiDeal -/
def slices_ContainsFunc_apiDeal_sd (s_0 : Sl) (f_1 : Value) (K : Bool -> World -> Prop) (w : World) : Prop :=
  slices_IndexFunc_apiDeal_sh s_0 f_1 (fun r2 w1 => K (decide (r2 >= (0 : Int))) w1) w
structure slices_ContainsFunc_apiDeal_sh (s_0 : Sl) (f_1 : Value) (K : Bool -> World -> Prop) (w : World) : Prop where
  out : slices_ContainsFunc_apiDeal_sd s_0 f_1 K w
noncomputable def slices_ContainsFunc_apiDeal_S : Pw.Spec := fun vs w Kv =>
  match vs with
  | [.slice s_0p s_0l s_0c, f_1] => slices_ContainsFunc_apiDeal_sh ⟨s_0p, s_0l, s_0c⟩ f_1 (fun r0 w' => Kv (Value.bool r0) w') w
  | _ => False
noncomputable def slices_ContainsFunc_apiDeal_E : Pw.Env := [(73, slices_IndexFunc_apiDeal_S)]
noncomputable def slices_ContainsFunc_apiDeal_C : Code := (Try.f60.body).getD .skip
noncomputable def slices_ContainsFunc_apiDeal_A (_Kv : VW) : Pw.A :=
  (A.seq (A.reg (RA.run RA.done))
   (A.seq (A.reg (Pw.rn 5 RA.done))
   A.leaf))
noncomputable def slices_ContainsFunc_apiDeal_O (Kv : VW) : List Ob := (obs Try.prog slices_ContainsFunc_apiDeal_E 9 (slices_ContainsFunc_apiDeal_A Kv) slices_ContainsFunc_apiDeal_C (fun _ => retQ Try.prog Try.f60.results Kv))
theorem slices_ContainsFunc_apiDeal_e (Kv : VW) (s_0p : Option Addr) (s_0l s_0c : Nat) (f_1 : Value) (w : World) : slices_ContainsFunc_apiDeal_sd ⟨s_0p, s_0l, s_0c⟩ f_1 (fun r0 w' => Kv (Value.bool r0) w') w = W Try.prog slices_ContainsFunc_apiDeal_E 9 (slices_ContainsFunc_apiDeal_A Kv) slices_ContainsFunc_apiDeal_C [] (retQ Try.prog Try.f60.results Kv) [] (startS [(Value.slice s_0p s_0l s_0c), f_1]) w := by kernel_rfl
theorem slices_ContainsFunc_apiDeal_n (Kv : VW) : obAt (slices_ContainsFunc_apiDeal_O Kv) 0 = none := by kernel_rfl
theorem slices_ContainsFunc_apiDeal_h (Kv : VW) : ∀ k, holdsAt Try.prog slices_ContainsFunc_apiDeal_E 9 (slices_ContainsFunc_apiDeal_O Kv) k := fun _ => holdsAt_ge (slices_ContainsFunc_apiDeal_n Kv) (Nat.zero_le _)
theorem slices_ContainsFunc_apiDeal_ok : Sound Try.prog 60 slices_ContainsFunc_apiDeal_S := ⟨Try.call60, fun vs w Kv h => by
  unfold slices_ContainsFunc_apiDeal_S at h
  split at h
  · have h := h.out
    rw [slices_ContainsFunc_apiDeal_e] at h
    exact calls_sound (Γ := slices_ContainsFunc_apiDeal_E) progMixed ⟨.inl slices_IndexFunc_apiDeal_ok, trivial⟩ Try.func60 (code := slices_ContainsFunc_apiDeal_C) (by kernel_rfl) (slices_ContainsFunc_apiDeal_A Kv) Kv (holds_all (slices_ContainsFunc_apiDeal_h Kv)) (Nat.le_of_ble_eq_true (by kernel_rfl)) h
  · exact h.elim⟩
/-! Cb_all_apiDeal -/
def Cb_all_apiDeal_sd (l_0 : Sl) (ok_1 : Value) (K : Bool -> World -> Prop) (w : World) : Prop :=
  let w1 := w.alloc (Obj.cells (Value.cells ok_1) 74)
  slices_ContainsFunc_apiDeal_sh l_0 (Value.func (.func 61) #[] #[(Value.pointer (some (Addr.mk w.heap.size 0 none)))]) (fun r3 w2 => K (!r3) w2) w1
structure Cb_all_apiDeal_sh (l_0 : Sl) (ok_1 : Value) (K : Bool -> World -> Prop) (w : World) : Prop where
  out : Cb_all_apiDeal_sd l_0 ok_1 K w
noncomputable def Cb_all_apiDeal_S : Pw.Spec := fun vs w Kv =>
  match vs with
  | [.slice l_0p l_0l l_0c, ok_1] => Cb_all_apiDeal_sh ⟨l_0p, l_0l, l_0c⟩ ok_1 (fun r0 w' => Kv (Value.bool r0) w') w
  | _ => False
noncomputable def Cb_all_apiDeal_E : Pw.Env := [(60, slices_ContainsFunc_apiDeal_S)]
noncomputable def Cb_all_apiDeal_C : Code := (Try.f41.body).getD .skip
noncomputable def Cb_all_apiDeal_A (_Kv : VW) : Pw.A :=
  (A.seq (A.reg (Pw.rn 2 RA.done))
   (A.seq (A.reg (Pw.rn 5 RA.done))
   A.leaf))
noncomputable def Cb_all_apiDeal_O (Kv : VW) : List Ob := (obs Try.prog Cb_all_apiDeal_E 9 (Cb_all_apiDeal_A Kv) Cb_all_apiDeal_C (fun _ => retQ Try.prog Try.f41.results Kv))
theorem Cb_all_apiDeal_e (Kv : VW) (l_0p : Option Addr) (l_0l l_0c : Nat) (ok_1 : Value) (w : World) : Cb_all_apiDeal_sd ⟨l_0p, l_0l, l_0c⟩ ok_1 (fun r0 w' => Kv (Value.bool r0) w') w = W Try.prog Cb_all_apiDeal_E 9 (Cb_all_apiDeal_A Kv) Cb_all_apiDeal_C [] (retQ Try.prog Try.f41.results Kv) [] (startS [(Value.slice l_0p l_0l l_0c), ok_1]) w := by kernel_rfl
theorem Cb_all_apiDeal_n (Kv : VW) : obAt (Cb_all_apiDeal_O Kv) 0 = none := by kernel_rfl
theorem Cb_all_apiDeal_h (Kv : VW) : ∀ k, holdsAt Try.prog Cb_all_apiDeal_E 9 (Cb_all_apiDeal_O Kv) k := fun _ => holdsAt_ge (Cb_all_apiDeal_n Kv) (Nat.zero_le _)
theorem Cb_all_apiDeal_ok : Sound Try.prog 41 Cb_all_apiDeal_S := ⟨Try.call41, fun vs w Kv h => by
  unfold Cb_all_apiDeal_S at h
  split at h
  · have h := h.out
    rw [Cb_all_apiDeal_e] at h
    exact calls_sound (Γ := Cb_all_apiDeal_E) progMixed ⟨.inl slices_ContainsFunc_apiDeal_ok, trivial⟩ Try.func41 (code := Cb_all_apiDeal_C) (by kernel_rfl) (Cb_all_apiDeal_A Kv) Kv (holds_all (Cb_all_apiDeal_h Kv)) (Nat.le_of_ble_eq_true (by kernel_rfl)) h
  · exact h.elim⟩
/-! Cb_right -/
def Cb_right_sd (p_0_0 p_0_1 p_0_2 : Sl) (p_0_3 p_0_4 : Int) (K : Bool -> World -> Prop) (w : World) : Prop :=
  let w1 := w.alloc (Obj.cells #[(Value.slice p_0_0.p p_0_0.l p_0_0.c), (Value.slice p_0_1.p p_0_1.l p_0_1.c), (Value.slice p_0_2.p p_0_2.l p_0_2.c), (Value.int .i64 p_0_3), (Value.int .i64 p_0_4)] 28)
  let w2 := w1.alloc (Obj.cells #[Value.nilFunc] 71)
  wrOk w2 (Addr.mk w1.heap.size 0 none) /\ 
  (let w3 := w2.setCell (Addr.mk w1.heap.size 0 none) (Value.func (.func 34) #[] #[(Value.pointer (some (Addr.mk w.heap.size 0 none)))])
  ∃ x4 : Sl, w3.cell? (Addr.mk w.heap.size 0 none) = some (Value.slice x4.p x4.l x4.c) /\ cnd (decide ((x4.l : Int) > (0 : Int)))
    (∃ x5 : Sl, w3.cell? (Addr.mk w.heap.size 0 none) = some (Value.slice x5.p x5.l x5.c) /\ cnd (decide ((x5.l : Int) <= (12 : Int)))
    (∃ x6 : Sl, w3.cell? (Addr.mk w.heap.size 0 none) = some (Value.slice x6.p x6.l x6.c) /\ Cb_distinct_sh x6 (fun r8 w7 => cnd r8
    (∃ x9 : Sl, w7.cell? (Addr.mk w.heap.size 1 none) = some (Value.slice x9.p x9.l x9.c) /\ cnd (decide ((x9.l : Int) <= (480 : Int)))
    (∃ x10 : Sl, w7.cell? (Addr.mk w.heap.size 2 none) = some (Value.slice x10.p x10.l x10.c) /\ cnd (decide ((x10.l : Int) <= (100 : Int)))
    (∃ x11 : Int, w7.cell? (Addr.mk w.heap.size 3 none) = some (Value.int .i64 x11) /\ Cb_within_sh x11 (1000000000 : Int) (fun r13 w12 => cnd r13
    (∃ x14 : Int, w12.cell? (Addr.mk w.heap.size 4 none) = some (Value.int .i64 x14) /\ Cb_within_sh x14 (1000000000 : Int) (fun r16 w15 => cnd r16
    (∃ x17 : Sl, w15.cell? (Addr.mk w.heap.size 1 none) = some (Value.slice x17.p x17.l x17.c) /\ Cb_all_apiChoice_sh x17 (Value.func (.func 36) #[] #[(Value.pointer (some (Addr.mk w1.heap.size 0 none)))]) (fun r19 w18 => cnd r19
    (∃ x20 : Sl, w18.cell? (Addr.mk w.heap.size 2 none) = some (Value.slice x20.p x20.l x20.c) /\ Cb_all_apiDeal_sh x20 (Value.func (.func 37) #[] #[(Value.pointer (some (Addr.mk w1.heap.size 0 none)))]) (fun r22 w21 => K r22 w21) w18)
    (K false w18)) w15)
    (K false w15)) w12)
    (K false w12)) w7)
    (K false w7))
    (K false w7))
    (K false w7)) w3)
    (K false w3))
    (K false w3))
structure Cb_right_sh (p_0_0 p_0_1 p_0_2 : Sl) (p_0_3 p_0_4 : Int) (K : Bool -> World -> Prop) (w : World) : Prop where
  out : Cb_right_sd p_0_0 p_0_1 p_0_2 p_0_3 p_0_4 K w
noncomputable def Cb_right_S : Pw.Spec := fun vs w Kv =>
  match vs with
  | [.agg ⟨[.slice p_0_0p p_0_0l p_0_0c, .slice p_0_1p p_0_1l p_0_1c, .slice p_0_2p p_0_2l p_0_2c, .int .i64 p_0_3, .int .i64 p_0_4]⟩] => Cb_right_sh ⟨p_0_0p, p_0_0l, p_0_0c⟩ ⟨p_0_1p, p_0_1l, p_0_1c⟩ ⟨p_0_2p, p_0_2l, p_0_2c⟩ p_0_3 p_0_4 (fun r0 w' => Kv (Value.bool r0) w') w
  | _ => False
noncomputable def Cb_right_E : Pw.Env := [(21, Cb_within_S), (38, Cb_distinct_S), (40, Cb_all_apiChoice_S), (41, Cb_all_apiDeal_S)]
noncomputable def Cb_right_C : Code := (Try.f20.body).getD .skip
noncomputable def Cb_right_A (_Kv : VW) : Pw.A :=
  (A.seq (A.reg (Pw.rn 2 RA.done))
   (A.seq (A.reg (Pw.rn 3 RA.done))
   (A.seq (A.reg (Pw.rn 2 RA.done))
   (A.seq (A.reg (Pw.rn 2 RA.done))
   (A.seq (A.reg (Pw.rn 5 (RA.spl 13 (Pw.rn 6 (RA.spl 19 (Pw.rn 5 (RA.spl 24 (Pw.rn 6 (RA.spl 30 (Pw.rn 6 (RA.spl 36 (Pw.rn 5 (RA.spl 41 (Pw.rn 5 (RA.spl 46 (Pw.rn 6 (RA.spl 52 (Pw.rn 6 RA.done) (Pw.sk 4 (Pw.rn 2 RA.done)))) (Pw.sk 4 (Pw.rn 2 (Pw.sk 4 (Pw.rn 2 RA.done)))))) (Pw.sk 3 (Pw.rn 2 (Pw.sk 4 (Pw.rn 2 (Pw.sk 4 (Pw.rn 2 RA.done)))))))) (Pw.sk 3 (Pw.rn 2 (Pw.sk 3 (Pw.rn 2 (Pw.sk 4 (Pw.rn 2 (Pw.sk 4 (Pw.rn 2 RA.done)))))))))) (Pw.sk 4 (Pw.rn 2 (Pw.sk 3 (Pw.rn 2 (Pw.sk 3 (Pw.rn 2 (Pw.sk 4 (Pw.rn 2 (Pw.sk 4 (Pw.rn 2 RA.done)))))))))))) (Pw.sk 4 (Pw.rn 2 (Pw.sk 4 (Pw.rn 2 (Pw.sk 3 (Pw.rn 2 (Pw.sk 3 (Pw.rn 2 (Pw.sk 4 (Pw.rn 2 (Pw.sk 4 (Pw.rn 2 RA.done)))))))))))))) (Pw.sk 3 (Pw.rn 2 (Pw.sk 4 (Pw.rn 2 (Pw.sk 4 (Pw.rn 2 (Pw.sk 3 (Pw.rn 2 (Pw.sk 3 (Pw.rn 2 (Pw.sk 4 (Pw.rn 2 (Pw.sk 4 (Pw.rn 2 RA.done)))))))))))))))) (Pw.sk 4 (Pw.rn 2 (Pw.sk 3 (Pw.rn 2 (Pw.sk 4 (Pw.rn 2 (Pw.sk 4 (Pw.rn 2 (Pw.sk 3 (Pw.rn 2 (Pw.sk 3 (Pw.rn 2 (Pw.sk 4 (Pw.rn 2 (Pw.sk 4 (Pw.rn 2 RA.done)))))))))))))))))))
   A.leaf)))))
noncomputable def Cb_right_O (Kv : VW) : List Ob := (obs Try.prog Cb_right_E 58 (Cb_right_A Kv) Cb_right_C (fun _ => retQ Try.prog Try.f20.results Kv))
theorem Cb_right_e (Kv : VW) (p_0_0p : Option Addr) (p_0_0l p_0_0c : Nat) (p_0_1p : Option Addr) (p_0_1l p_0_1c : Nat) (p_0_2p : Option Addr) (p_0_2l p_0_2c : Nat) (p_0_3 p_0_4 : Int) (w : World) : Cb_right_sd ⟨p_0_0p, p_0_0l, p_0_0c⟩ ⟨p_0_1p, p_0_1l, p_0_1c⟩ ⟨p_0_2p, p_0_2l, p_0_2c⟩ p_0_3 p_0_4 (fun r0 w' => Kv (Value.bool r0) w') w = W Try.prog Cb_right_E 58 (Cb_right_A Kv) Cb_right_C [] (retQ Try.prog Try.f20.results Kv) [] (startS [(Value.agg #[(Value.slice p_0_0p p_0_0l p_0_0c), (Value.slice p_0_1p p_0_1l p_0_1c), (Value.slice p_0_2p p_0_2l p_0_2c), (Value.int .i64 p_0_3), (Value.int .i64 p_0_4)])]) w := by kernel_rfl
theorem Cb_right_n (Kv : VW) : obAt (Cb_right_O Kv) 0 = none := by kernel_rfl
theorem Cb_right_h (Kv : VW) : ∀ k, holdsAt Try.prog Cb_right_E 58 (Cb_right_O Kv) k := fun _ => holdsAt_ge (Cb_right_n Kv) (Nat.zero_le _)
theorem Cb_right_ok : Sound Try.prog 20 Cb_right_S := ⟨Try.call20, fun vs w Kv h => by
  unfold Cb_right_S at h
  split at h
  · have h := h.out
    rw [Cb_right_e] at h
    exact calls_sound (Γ := Cb_right_E) progMixed ⟨.inl Cb_within_ok, .inl Cb_distinct_ok, .inl Cb_all_apiChoice_ok, .inl Cb_all_apiDeal_ok, trivial⟩ Try.func20 (code := Cb_right_C) (by kernel_rfl) (Cb_right_A Kv) Kv (holds_all (Cb_right_h Kv)) (Nat.le_of_ble_eq_true (by kernel_rfl)) h
  · exact h.elim⟩
/-! bits_Mul32 -/
def bits_Mul32_sd (x_0 y_1 : Int) (K : Int -> Int -> World -> Prop) (w : World) : Prop :=
  inR .u64 x_0 /\ inR .u64 y_1 /\ inR .u64 (x_0 * y_1) /\ 0 <= (32 : Int) /\ inR .u32 (Int.fdiv (x_0 * y_1) (2 ^ (min 32 (IntKind.bits .u64)))) /\ inR .u32 (x_0 * y_1) /\ K (Int.fdiv (x_0 * y_1) (2 ^ (min 32 (IntKind.bits .u64)))) (x_0 * y_1) w
structure bits_Mul32_sh (x_0 y_1 : Int) (K : Int -> Int -> World -> Prop) (w : World) : Prop where
  out : bits_Mul32_sd x_0 y_1 K w
noncomputable def bits_Mul32_S : Pw.Spec := fun vs w Kv =>
  match vs with
  | [.int .u32 x_0, .int .u32 y_1] => bits_Mul32_sh x_0 y_1 (fun r0 r1 w' => Kv (Value.tuple #[(Value.int .u32 r0), (Value.int .u32 r1)]) w') w
  | _ => False
noncomputable def bits_Mul32_E : Pw.Env := []
noncomputable def bits_Mul32_C : Code := (Try.f62.body).getD .skip
noncomputable def bits_Mul32_A (_Kv : VW) : Pw.A :=
  (A.seq (A.reg (Pw.rn 2 RA.done))
   (A.seq (A.reg (Pw.rn 6 RA.done))
   (A.seq (A.reg (Pw.rn 7 RA.done))
   A.leaf)))
noncomputable def bits_Mul32_O (Kv : VW) : List Ob := (obs Try.prog bits_Mul32_E 17 (bits_Mul32_A Kv) bits_Mul32_C (fun _ => retQ Try.prog Try.f62.results Kv))
theorem bits_Mul32_e (Kv : VW) (x_0 y_1 : Int) (w : World) : bits_Mul32_sd x_0 y_1 (fun r0 r1 w' => Kv (Value.tuple #[(Value.int .u32 r0), (Value.int .u32 r1)]) w') w = W Try.prog bits_Mul32_E 17 (bits_Mul32_A Kv) bits_Mul32_C [] (retQ Try.prog Try.f62.results Kv) [] (startS [(Value.int .u32 x_0), (Value.int .u32 y_1)]) w := by kernel_rfl
theorem bits_Mul32_n (Kv : VW) : obAt (bits_Mul32_O Kv) 0 = none := by kernel_rfl
theorem bits_Mul32_h (Kv : VW) : ∀ k, holdsAt Try.prog bits_Mul32_E 17 (bits_Mul32_O Kv) k := fun _ => holdsAt_ge (bits_Mul32_n Kv) (Nat.zero_le _)
theorem bits_Mul32_ok : Sound Try.prog 62 bits_Mul32_S := ⟨Try.call62, fun vs w Kv h => by
  unfold bits_Mul32_S at h
  split at h
  · have h := h.out
    rw [bits_Mul32_e] at h
    exact calls_sound (Γ := bits_Mul32_E) progMixed trivial Try.func62 (code := bits_Mul32_C) (by kernel_rfl) (bits_Mul32_A Kv) Kv (holds_all (bits_Mul32_h Kv)) (Nat.le_of_ble_eq_true (by kernel_rfl)) h
  · exact h.elim⟩
/-! bits_Mul -/
def bits_Mul_sd (x_0 y_1 : Int) (K : Int -> Int -> World -> Prop) (w : World) : Prop :=
  bits_Mul64_sh x_0 y_1 (fun r2 r3 w1 => K r2 r3 w1) w
structure bits_Mul_sh (x_0 y_1 : Int) (K : Int -> Int -> World -> Prop) (w : World) : Prop where
  out : bits_Mul_sd x_0 y_1 K w
noncomputable def bits_Mul_S : Pw.Spec := fun vs w Kv =>
  match vs with
  | [.int .u64 x_0, .int .u64 y_1] => bits_Mul_sh x_0 y_1 (fun r0 r1 w' => Kv (Value.tuple #[(Value.int .u64 r0), (Value.int .u64 r1)]) w') w
  | _ => False
noncomputable def bits_Mul_E : Pw.Env := [(63, bits_Mul64_S)]
noncomputable def bits_Mul_C : Code := (Try.f42.body).getD .skip
noncomputable def bits_Mul_A (_Kv : VW) : Pw.A :=
  (A.seq (A.reg (Pw.rn 2 RA.done))
   (A.seq (A.cond A.leaf
   A.leaf)
   (A.seq (A.reg (Pw.rn 8 RA.done))
   (A.seq (A.reg (Pw.rn 4 RA.done))
   A.leaf))))
noncomputable def bits_Mul_O (Kv : VW) : List Ob := (obs Try.prog bits_Mul_E 30 (bits_Mul_A Kv) bits_Mul_C (fun _ => retQ Try.prog Try.f42.results Kv))
theorem bits_Mul_e (Kv : VW) (x_0 y_1 : Int) (w : World) : bits_Mul_sd x_0 y_1 (fun r0 r1 w' => Kv (Value.tuple #[(Value.int .u64 r0), (Value.int .u64 r1)]) w') w = W Try.prog bits_Mul_E 30 (bits_Mul_A Kv) bits_Mul_C [] (retQ Try.prog Try.f42.results Kv) [] (startS [(Value.int .u64 x_0), (Value.int .u64 y_1)]) w := by kernel_rfl
theorem bits_Mul_n (Kv : VW) : obAt (bits_Mul_O Kv) 0 = none := by kernel_rfl
theorem bits_Mul_h (Kv : VW) : ∀ k, holdsAt Try.prog bits_Mul_E 30 (bits_Mul_O Kv) k := fun _ => holdsAt_ge (bits_Mul_n Kv) (Nat.zero_le _)
theorem bits_Mul_ok : Sound Try.prog 42 bits_Mul_S := ⟨Try.call42, fun vs w Kv h => by
  unfold bits_Mul_S at h
  split at h
  · have h := h.out
    rw [bits_Mul_e] at h
    exact calls_sound (Γ := bits_Mul_E) progMixed ⟨.inl bits_Mul64_ok, trivial⟩ Try.func42 (code := bits_Mul_C) (by kernel_rfl) (bits_Mul_A Kv) Kv (holds_all (bits_Mul_h Kv)) (Nat.le_of_ble_eq_true (by kernel_rfl)) h
  · exact h.elim⟩
/-! slices_Repeat -/
def slices_Repeat_k0d (_x_0 : Sl) (_lo_6 : Int) (_K : Sl -> World -> Prop) (_w : World) : Prop :=
  False
structure slices_Repeat_k0 (x_0 : Sl) (lo_6 : Int) (K : Sl -> World -> Prop) (w : World) : Prop where
  out : slices_Repeat_k0d x_0 lo_6 K w
def slices_Repeat_b1 (newslice_7 : Sl) (n_8 : Int) (N1 : Sl -> Int -> World -> Prop) (K : Sl -> World -> Prop) (w : World) : Prop :=
  cnd (decide (n_8 < (newslice_7.l : Int)))
    (let w8 := w.drew
  ∃ S9 : World -> Prop, S9 w8 /\ (0 <= n_8 /\ n_8 <= (newslice_7.l : Nat)) /\ (0 <= (0 : Int) /\ (0 : Int) <= n_8 /\ n_8 <= (newslice_7.c : Nat)) /\ cpS 1 (Sl.mk (subP newslice_7.p n_8.toNat newslice_7.c 1) (newslice_7.l - n_8.toNat) (newslice_7.c - n_8.toNat)) (Sl.mk (subP newslice_7.p 0 newslice_7.c 1) (n_8.toNat - 0) (newslice_7.c - 0)) w8 fun x10 w11 => inR .i64 (n_8 + x10) /\ N1 newslice_7 (n_8 + x10) w11)
    (K newslice_7 w)
def slices_Repeat_l1d (newslice_7 : Sl) (n_8 : Int) (K : Sl -> World -> Prop) (w : World) : Prop :=
  ∃ (I : Int -> World -> Prop) (μ : Int -> World -> Nat), I n_8 w /\ ∀ (n_81 : Int) (w1 : World), I n_81 w1 ->
    slices_Repeat_b1 newslice_7 n_81 (fun newslice_7' n_8' w' => ((newslice_7' = newslice_7 /\ True) /\ I n_8' w') /\ μ n_8' w' < μ n_81 w1) K w1
structure slices_Repeat_l1 (newslice_7 : Sl) (n_8 : Int) (K : Sl -> World -> Prop) (w : World) : Prop where
  out : slices_Repeat_l1d newslice_7 n_8 K w
def slices_Repeat_sd (x_0 : Sl) (count_1 : Int) (K : Sl -> World -> Prop) (w : World) : Prop :=
  cnd (decide (count_1 < (0 : Int)))
    (False)
    (inR .u64 (x_0.l : Int) /\ inR .u64 count_1 /\ bits_Mul_sh (x_0.l : Int) count_1 (fun r2 r3 w1 => cnd (decide (r2 > (0 : Int)))
    (slices_Repeat_k0 x_0 r3 K w1)
    (cnd (decide (r3 > (9223372036854775807 : Int)))
    (slices_Repeat_k0 x_0 r3 K w1)
    (inR .i64 r3 /\ mkS 8 [(Value.int .i64 0)] 3 r3 r3 w1 fun s4 w5 => cpS 1 s4 x_0 w5 fun x6 w7 => slices_Repeat_l1 s4 x6 K w7))) w)
structure slices_Repeat_sh (x_0 : Sl) (count_1 : Int) (K : Sl -> World -> Prop) (w : World) : Prop where
  out : slices_Repeat_sd x_0 count_1 K w
def slices_Repeat_P0 (Kv : VW) (ρ : Rho) (vs : List Value) (w : World) : Prop :=
  match ρ, vs with
  | _, [.slice x_0p x_0l x_0c, .int .u64 lo_6] => slices_Repeat_k0 ⟨x_0p, x_0l, x_0c⟩ lo_6 (fun r0 w' => Kv (Value.slice r0.p r0.l r0.c) w') w
  | _, _ => False
def slices_Repeat_P1 (Kv : VW) (ρ : Rho) (vs : List Value) (w : World) : Prop :=
  match ρ, vs with
  | _, [.slice newslice_7p newslice_7l newslice_7c, .int .i64 n_8] => slices_Repeat_l1 ⟨newslice_7p, newslice_7l, newslice_7c⟩ n_8 (fun r0 w' => Kv (Value.slice r0.p r0.l r0.c) w') w
  | _, _ => False
noncomputable def slices_Repeat_S : Pw.Spec := fun vs w Kv =>
  match vs with
  | [.slice x_0p x_0l x_0c, .int .i64 count_1] => slices_Repeat_sh ⟨x_0p, x_0l, x_0c⟩ count_1 (fun r0 w' => Kv (Value.slice r0.p r0.l r0.c) w') w
  | _ => False
noncomputable def slices_Repeat_E : Pw.Env := [(42, bits_Mul_S)]
noncomputable def slices_Repeat_C : Code := (Try.f22.body).getD .skip
noncomputable def slices_Repeat_A (Kv : VW) : Pw.A :=
  (A.seq (A.reg (RA.run RA.done))
   (A.seq (A.seq (A.reg (Pw.rn 2 RA.done))
   (A.cond (A.reg (Pw.rn 2 RA.done))
   A.leaf))
   (A.seq (A.reg (Pw.rn 11 RA.done))
   (A.seq (A.seq (A.reg (Pw.rn 3 (RA.spl 23 (Pw.sk 2 (RA.run RA.done)) (Pw.rn 3 RA.done))))
   (A.cond (A.cut [0, 6] (slices_Repeat_P0 Kv) (A.reg (Pw.rn 2 RA.done)))
   A.leaf))
   (A.seq (A.reg (Pw.rn 4 RA.done))
   (A.seq (A.reg (Pw.rn 4 RA.done))
   (A.seq (A.blk (A.loop [7, 8] (slices_Repeat_P1 Kv) (A.seq (A.seq (A.reg (Pw.rn 4 RA.done))
   (A.cond A.leaf
   A.leaf))
   (A.blk (A.drw (DA.pur 0 (DA.pur 1 (DA.pur 2 (DA.pur 3 (DA.pur 4 (DA.pur 5 (DA.pur 6 (DA.eff 7 (DA.pur 8 (DA.pur 9 DA.done)))))))))))))))
   (A.seq (A.reg (Pw.rn 2 RA.done))
   A.leaf))))))))
noncomputable def slices_Repeat_O (Kv : VW) : List Ob := (obs Try.prog slices_Repeat_E 48 (slices_Repeat_A Kv) slices_Repeat_C (fun _ => retQ Try.prog Try.f22.results Kv))
theorem slices_Repeat_e (Kv : VW) (x_0p : Option Addr) (x_0l x_0c : Nat) (count_1 : Int) (w : World) : slices_Repeat_sd ⟨x_0p, x_0l, x_0c⟩ count_1 (fun r0 w' => Kv (Value.slice r0.p r0.l r0.c) w') w = W Try.prog slices_Repeat_E 48 (slices_Repeat_A Kv) slices_Repeat_C [] (retQ Try.prog Try.f22.results Kv) [] (startS [(Value.slice x_0p x_0l x_0c), (Value.int .i64 count_1)]) w := by kernel_rfl
theorem slices_Repeat_e0 (Kv : VW) (ρ : Rho) (x_0p : Option Addr) (x_0l x_0c : Nat) (lo_6 : Int) (w : World) : slices_Repeat_k0d ⟨x_0p, x_0l, x_0c⟩ lo_6 (fun r0 w' => Kv (Value.slice r0.p r0.l r0.c) w') w = goalAt Try.prog slices_Repeat_E 48 (slices_Repeat_O Kv) 0 (ρ) [(Value.slice x_0p x_0l x_0c), (Value.int .u64 lo_6)] w := by kernel_rfl
theorem slices_Repeat_q0 (Kv : VW) (ρ : Rho) (vs : List Value) (w : World) : labAt (slices_Repeat_O Kv) 0 ρ vs w = slices_Repeat_P0 Kv ρ vs w := by kernel_rfl
theorem slices_Repeat_h0 (Kv : VW) : holdsAt Try.prog slices_Repeat_E 48 (slices_Repeat_O Kv) 0 := holdsAt_cut (.inl (by kernel_rfl)) (fun ρ vs w h => by
  rw [slices_Repeat_q0] at h
  unfold slices_Repeat_P0 at h
  split at h
  · rw [← slices_Repeat_e0]; exact h.out
  · exact h.elim)
theorem slices_Repeat_e1 (Kv : VW) (N1 : List Value -> World -> Prop) (ρ : Rho) (newslice_7p : Option Addr) (newslice_7l newslice_7c : Nat) (n_8 : Int) (w : World) : slices_Repeat_b1 ⟨newslice_7p, newslice_7l, newslice_7c⟩ n_8 (fun newslice_7' n_8' w' => N1 [(Value.slice newslice_7'.p newslice_7'.l newslice_7'.c), (Value.int .i64 n_8')] w') (fun r0 w' => Kv (Value.slice r0.p r0.l r0.c) w') w = goalAt Try.prog slices_Repeat_E 48 (slices_Repeat_O Kv) 1 (N1 :: ρ) [(Value.slice newslice_7p newslice_7l newslice_7c), (Value.int .i64 n_8)] w := by kernel_rfl
theorem slices_Repeat_q1 (Kv : VW) (ρ : Rho) (vs : List Value) (w : World) : labAt (slices_Repeat_O Kv) 1 ρ vs w = slices_Repeat_P1 Kv ρ vs w := by kernel_rfl
def slices_Repeat_I1 (newslice_70 : Sl) (I : Int -> World -> Prop) (vs : List Value) (w : World) : Prop :=
  match vs with
  | [.slice newslice_7p newslice_7l newslice_7c, .int .i64 n_8] => (⟨newslice_7p, newslice_7l, newslice_7c⟩ = newslice_70 /\ True) /\ I n_8 w
  | _ => False
def slices_Repeat_M1 (μ : Int -> World -> Nat) (vs : List Value) (w : World) : Nat :=
  match vs with
  | [.slice _newslice_7p _newslice_7l _newslice_7c, .int .i64 n_8] => μ n_8 w
  | _ => 0
theorem slices_Repeat_h1 (Kv : VW) : holdsAt Try.prog slices_Repeat_E 48 (slices_Repeat_O Kv) 1 := holdsAt_loop (by kernel_rfl) (fun ρ vs w h => by
  rw [slices_Repeat_q1] at h
  unfold slices_Repeat_P1 at h
  split at h
  · rename_i ρt newslice_7p newslice_7l newslice_7c n_8
    obtain ⟨I, μ, h0, hr⟩ := h.out
    refine ⟨slices_Repeat_I1 ⟨newslice_7p, newslice_7l, newslice_7c⟩ I, slices_Repeat_M1 μ, ⟨⟨rfl, trivial⟩, h0⟩, fun vs w hI => ?_⟩
    unfold slices_Repeat_I1 at hI
    split at hI
    · obtain ⟨⟨h0, _⟩, hI⟩ := hI
      cases h0
      rw [← slices_Repeat_e1]
      exact hr _ _ hI
    · exact hI.elim
  · exact h.elim)
theorem slices_Repeat_n (Kv : VW) : obAt (slices_Repeat_O Kv) 2 = none := by kernel_rfl
theorem slices_Repeat_h (Kv : VW) : ∀ k, holdsAt Try.prog slices_Repeat_E 48 (slices_Repeat_O Kv) k := fun k => match k with
  | 0 => slices_Repeat_h0 Kv
  | 1 => slices_Repeat_h1 Kv
  | _k + 2 => holdsAt_ge (slices_Repeat_n Kv) (Nat.le_add_left _ _)
theorem slices_Repeat_ok : Sound Try.prog 22 slices_Repeat_S := ⟨Try.call22, fun vs w Kv h => by
  unfold slices_Repeat_S at h
  split at h
  · have h := h.out
    rw [slices_Repeat_e] at h
    exact calls_sound (Γ := slices_Repeat_E) progMixed ⟨.inl bits_Mul_ok, trivial⟩ Try.func22 (code := slices_Repeat_C) (by kernel_rfl) (slices_Repeat_A Kv) Kv (holds_all (slices_Repeat_h Kv)) (Nat.le_of_ble_eq_true (by kernel_rfl)) h
  · exact h.elim⟩
/-! Cp_taken -/
def Cp_taken_b0 (f_1 : Addr) (out_3 t_7 : Sl) (t_8 t_9 : Int) (N0 : Addr -> Sl -> Sl -> Int -> Int -> World -> Prop) (K : Sl -> World -> Prop) (w : World) : Prop :=
  cnd (decide (t_9 < t_8))
    (nz t_7.p fun a3 => (0 <= t_9 /\ t_9 < (t_7.l : Nat)) /\ ∃ x4 : Int, w.cell? (a3.add (t_9.toNat * 1)) = some (Value.int .i64 x4) /\ cnd (decide (x4 >= (0 : Int)))
    (∃ x5 : Sl, w.cell? (f_1.add 1) = some (Value.slice x5.p x5.l x5.c) /\ nz x5.p fun a6 => (0 <= x4 /\ x4 < (x5.l : Nat)) /\ ∃ x7 : Int, w.cell? (a6.add (x4.toNat * 4)) = some (Value.int .i64 x7) /\ ∃ x8 : Int, w.cell? ((a6.add (x4.toNat * 4)).add 1) = some (Value.int .i64 x8) /\ ∃ x9 : Int, w.cell? ((a6.add (x4.toNat * 4)).add 2) = some (Value.int .i64 x9) /\ ∃ x10 : Int, w.cell? ((a6.add (x4.toNat * 4)).add 3) = some (Value.int .i64 x10) /\ let w11 := w.alloc (Obj.cells #[(Value.int .i64 x7), (Value.int .i64 x8), (Value.int .i64 x9), (Value.int .i64 x10)] 56)
  apS 4 32 [(Value.int .i64 0), (Value.int .i64 0), (Value.int .i64 0), (Value.int .i64 0)] 56 out_3 (Sl.mk (some (Addr.mk w.heap.size 0 none)) 1 1) w11 fun s12 w13 => inR .i64 (t_9 + (1 : Int)) /\ N0 f_1 s12 t_7 t_8 (t_9 + (1 : Int)) w13)
    (inR .i64 (t_9 + (1 : Int)) /\ N0 f_1 out_3 t_7 t_8 (t_9 + (1 : Int)) w))
    (K out_3 w)
def Cp_taken_l0d (f_1 : Addr) (out_3 t_7 : Sl) (t_8 t_9 : Int) (K : Sl -> World -> Prop) (w : World) : Prop :=
  ∃ (I : Sl -> Int -> World -> Prop) (μ : Sl -> Int -> World -> Nat), I out_3 t_9 w /\ ∀ (out_31 : Sl) (t_91 : Int) (w1 : World), I out_31 t_91 w1 ->
    Cp_taken_b0 f_1 out_31 t_7 t_8 t_91 (fun f_1' out_3' t_7' t_8' t_9' w' => ((f_1' = f_1 /\ t_7' = t_7 /\ t_8' = t_8 /\ True) /\ I out_3' t_9' w') /\ μ out_3' t_9' w' < μ out_31 t_91 w1) K w1
structure Cp_taken_l0 (f_1 : Addr) (out_3 t_7 : Sl) (t_8 t_9 : Int) (K : Sl -> World -> Prop) (w : World) : Prop where
  out : Cp_taken_l0d f_1 out_3 t_7 t_8 t_9 K w
def Cp_taken_sd (f_0_0 f_0_1 f_0_2 : Sl) (f_0_3 f_0_4 : Int) (f_0_5 : Sl) (K : Sl -> World -> Prop) (w : World) : Prop :=
  let w1 := w.alloc (Obj.cells #[(Value.slice f_0_0.p f_0_0.l f_0_0.c), (Value.slice f_0_1.p f_0_1.l f_0_1.c), (Value.slice f_0_2.p f_0_2.l f_0_2.c), (Value.int .i64 f_0_3), (Value.int .i64 f_0_4), (Value.slice f_0_5.p f_0_5.l f_0_5.c)] 65)
  ∃ x2 : Sl, w1.cell? (Addr.mk w.heap.size 5 none) = some (Value.slice x2.p x2.l x2.c) /\ Cp_taken_l0 (Addr.mk w.heap.size 0 none) (Sl.mk none 0 0) x2 (x2.l : Int) (0 : Int) K w1
structure Cp_taken_sh (f_0_0 f_0_1 f_0_2 : Sl) (f_0_3 f_0_4 : Int) (f_0_5 : Sl) (K : Sl -> World -> Prop) (w : World) : Prop where
  out : Cp_taken_sd f_0_0 f_0_1 f_0_2 f_0_3 f_0_4 f_0_5 K w
def Cp_taken_P0 (Kv : VW) (ρ : Rho) (vs : List Value) (w : World) : Prop :=
  match ρ, vs with
  | _, [.pointer (some f_1), .slice out_3p out_3l out_3c, .slice t_7p t_7l t_7c, .int .i64 t_8, .int .i64 t_9] => Cp_taken_l0 f_1 ⟨out_3p, out_3l, out_3c⟩ ⟨t_7p, t_7l, t_7c⟩ t_8 t_9 (fun r0 w' => Kv (Value.slice r0.p r0.l r0.c) w') w
  | _, _ => False
noncomputable def Cp_taken_S : Pw.Spec := fun vs w Kv =>
  match vs with
  | [.agg ⟨[.slice f_0_0p f_0_0l f_0_0c, .slice f_0_1p f_0_1l f_0_1c, .slice f_0_2p f_0_2l f_0_2c, .int .i64 f_0_3, .int .i64 f_0_4, .slice f_0_5p f_0_5l f_0_5c]⟩] => Cp_taken_sh ⟨f_0_0p, f_0_0l, f_0_0c⟩ ⟨f_0_1p, f_0_1l, f_0_1c⟩ ⟨f_0_2p, f_0_2l, f_0_2c⟩ f_0_3 f_0_4 ⟨f_0_5p, f_0_5l, f_0_5c⟩ (fun r0 w' => Kv (Value.slice r0.p r0.l r0.c) w') w
  | _ => False
noncomputable def Cp_taken_E : Pw.Env := []
noncomputable def Cp_taken_C : Code := (Try.f48.body).getD .skip
noncomputable def Cp_taken_A (Kv : VW) : Pw.A :=
  (A.seq (A.reg (Pw.rn 2 RA.done))
   (A.seq (A.reg (RA.run RA.done))
   (A.seq (A.seq (A.reg (Pw.rn 4 RA.done))
   (A.blk (A.loop [1, 3, 7, 8, 9] (Cp_taken_P0 Kv) (A.seq (A.reg (RA.run RA.done))
   (A.seq (A.cond A.leaf
   A.leaf)
   (A.seq (A.blk (A.seq (A.reg (Pw.rn 3 RA.done))
   (A.seq (A.reg (Pw.rn 2 RA.done))
   (A.cond (A.reg (Pw.rn 10 RA.done))
   A.leaf))))
   (A.reg (Pw.rn 2 RA.done))))))))
   (A.seq (A.reg (Pw.rn 2 RA.done))
   A.leaf))))
noncomputable def Cp_taken_O (Kv : VW) : List Ob := (obs Try.prog Cp_taken_E 26 (Cp_taken_A Kv) Cp_taken_C (fun _ => retQ Try.prog Try.f48.results Kv))
theorem Cp_taken_e (Kv : VW) (f_0_0p : Option Addr) (f_0_0l f_0_0c : Nat) (f_0_1p : Option Addr) (f_0_1l f_0_1c : Nat) (f_0_2p : Option Addr) (f_0_2l f_0_2c : Nat) (f_0_3 f_0_4 : Int) (f_0_5p : Option Addr) (f_0_5l f_0_5c : Nat) (w : World) : Cp_taken_sd ⟨f_0_0p, f_0_0l, f_0_0c⟩ ⟨f_0_1p, f_0_1l, f_0_1c⟩ ⟨f_0_2p, f_0_2l, f_0_2c⟩ f_0_3 f_0_4 ⟨f_0_5p, f_0_5l, f_0_5c⟩ (fun r0 w' => Kv (Value.slice r0.p r0.l r0.c) w') w = W Try.prog Cp_taken_E 26 (Cp_taken_A Kv) Cp_taken_C [] (retQ Try.prog Try.f48.results Kv) [] (startS [(Value.agg #[(Value.slice f_0_0p f_0_0l f_0_0c), (Value.slice f_0_1p f_0_1l f_0_1c), (Value.slice f_0_2p f_0_2l f_0_2c), (Value.int .i64 f_0_3), (Value.int .i64 f_0_4), (Value.slice f_0_5p f_0_5l f_0_5c)])]) w := by kernel_rfl
theorem Cp_taken_e0 (Kv : VW) (N0 : List Value -> World -> Prop) (ρ : Rho) (f_1 : Addr) (out_3p : Option Addr) (out_3l out_3c : Nat) (t_7p : Option Addr) (t_7l t_7c : Nat) (t_8 t_9 : Int) (w : World) : Cp_taken_b0 f_1 ⟨out_3p, out_3l, out_3c⟩ ⟨t_7p, t_7l, t_7c⟩ t_8 t_9 (fun f_1' out_3' t_7' t_8' t_9' w' => N0 [(Value.pointer (some f_1')), (Value.slice out_3'.p out_3'.l out_3'.c), (Value.slice t_7'.p t_7'.l t_7'.c), (Value.int .i64 t_8'), (Value.int .i64 t_9')] w') (fun r0 w' => Kv (Value.slice r0.p r0.l r0.c) w') w = goalAt Try.prog Cp_taken_E 26 (Cp_taken_O Kv) 0 (N0 :: ρ) [(Value.pointer (some f_1)), (Value.slice out_3p out_3l out_3c), (Value.slice t_7p t_7l t_7c), (Value.int .i64 t_8), (Value.int .i64 t_9)] w := by kernel_rfl
theorem Cp_taken_q0 (Kv : VW) (ρ : Rho) (vs : List Value) (w : World) : labAt (Cp_taken_O Kv) 0 ρ vs w = Cp_taken_P0 Kv ρ vs w := by kernel_rfl
def Cp_taken_I0 (f_10 : Addr) (t_70 : Sl) (t_80 : Int) (I : Sl -> Int -> World -> Prop) (vs : List Value) (w : World) : Prop :=
  match vs with
  | [.pointer (some f_1), .slice out_3p out_3l out_3c, .slice t_7p t_7l t_7c, .int .i64 t_8, .int .i64 t_9] => (f_1 = f_10 /\ ⟨t_7p, t_7l, t_7c⟩ = t_70 /\ t_8 = t_80 /\ True) /\ I ⟨out_3p, out_3l, out_3c⟩ t_9 w
  | _ => False
def Cp_taken_M0 (μ : Sl -> Int -> World -> Nat) (vs : List Value) (w : World) : Nat :=
  match vs with
  | [.pointer (some _f_1), .slice out_3p out_3l out_3c, .slice _t_7p _t_7l _t_7c, .int .i64 _t_8, .int .i64 t_9] => μ ⟨out_3p, out_3l, out_3c⟩ t_9 w
  | _ => 0
theorem Cp_taken_h0 (Kv : VW) : holdsAt Try.prog Cp_taken_E 26 (Cp_taken_O Kv) 0 := holdsAt_loop (by kernel_rfl) (fun ρ vs w h => by
  rw [Cp_taken_q0] at h
  unfold Cp_taken_P0 at h
  split at h
  · rename_i ρt f_1 out_3p out_3l out_3c t_7p t_7l t_7c t_8 t_9
    obtain ⟨I, μ, h0, hr⟩ := h.out
    refine ⟨Cp_taken_I0 f_1 ⟨t_7p, t_7l, t_7c⟩ t_8 I, Cp_taken_M0 μ, ⟨⟨rfl, rfl, rfl, trivial⟩, h0⟩, fun vs w hI => ?_⟩
    unfold Cp_taken_I0 at hI
    split at hI
    · obtain ⟨⟨h0, h1, h2, _⟩, hI⟩ := hI
      cases h0; cases h1; cases h2
      rw [← Cp_taken_e0]
      exact hr _ _ _ hI
    · exact hI.elim
  · exact h.elim)
theorem Cp_taken_n (Kv : VW) : obAt (Cp_taken_O Kv) 1 = none := by kernel_rfl
theorem Cp_taken_h (Kv : VW) : ∀ k, holdsAt Try.prog Cp_taken_E 26 (Cp_taken_O Kv) k := fun k => match k with
  | 0 => Cp_taken_h0 Kv
  | _k + 1 => holdsAt_ge (Cp_taken_n Kv) (Nat.le_add_left _ _)
theorem Cp_taken_ok : Sound Try.prog 48 Cp_taken_S := ⟨Try.call48, fun vs w Kv h => by
  unfold Cp_taken_S at h
  split at h
  · have h := h.out
    rw [Cp_taken_e] at h
    exact calls_sound (Γ := Cp_taken_E) progMixed trivial Try.func48 (code := Cp_taken_C) (by kernel_rfl) (Cp_taken_A Kv) Kv (holds_all (Cp_taken_h Kv)) (Nat.le_of_ble_eq_true (by kernel_rfl)) h
  · exact h.elim⟩
/-! Cp_crowded -/
def Cp_crowded_b0 (f_1 : Addr) (many_3 : Nat) (t_8 : Sl) (t_9 t_10 : Int) (N0 : Addr -> Nat -> Sl -> Int -> Int -> World -> Prop) (K : Bool -> World -> Prop) (w : World) : Prop :=
  cnd (decide (t_10 < t_9))
    (nz t_8.p fun a11 => (0 <= t_10 /\ t_10 < (t_8.l : Nat)) /\ ∃ x12 : Int, w.cell? (a11.add (t_10.toNat * 4)) = some (Value.int .i64 x12) /\ ∃ x13 : Int, w.cell? ((a11.add (t_10.toNat * 4)).add 1) = some (Value.int .i64 x13) /\ ∃ x14 : Int, w.cell? ((a11.add (t_10.toNat * 4)).add 2) = some (Value.int .i64 x14) /\ ∃ x15 : Int, w.cell? ((a11.add (t_10.toNat * 4)).add 3) = some (Value.int .i64 x15) /\ let w16 := w.alloc (Obj.cells #[(Value.int .i64 0), (Value.int .i64 0), (Value.int .i64 0), (Value.int .i64 0)] 56)
  stN w16 (Addr.mk w.heap.size 0 none) [(Value.int .i64 x12), (Value.int .i64 x13), (Value.int .i64 x14), (Value.int .i64 x15)] fun w17 => ∃ x18 : Int, w17.cell? (Addr.mk w.heap.size 1 none) = some (Value.int .i64 x18) /\ ∃ l19 : List (Int × Int), Mp w17 many_3 .i64 (l19.map fun p => (p.1, Value.int .i64 p.2)) /\ inR .i64 ((mgetD (0 : Int) x18 l19) + (1 : Int)) /\ (∃ l : List (Int × Value), Mp w17 many_3 .i64 l) /\ let w20 := w17.mset many_3 .i64 x18 (Value.int .i64 ((mgetD (0 : Int) x18 l19) + (1 : Int)))
  ∃ x21 : Int, w20.cell? (f_1.add 3) = some (Value.int .i64 x21) /\ cnd (decide (x21 > (0 : Int)))
    (∃ x22 : Int, w20.cell? (Addr.mk w.heap.size 1 none) = some (Value.int .i64 x22) /\ ∃ l23 : List (Int × Int), Mp w20 many_3 .i64 (l23.map fun p => (p.1, Value.int .i64 p.2)) /\ ∃ x24 : Int, w20.cell? (f_1.add 3) = some (Value.int .i64 x24) /\ cnd (decide ((mgetD (0 : Int) x22 l23) > x24))
    (K true w20)
    (inR .i64 (t_10 + (1 : Int)) /\ N0 f_1 many_3 t_8 t_9 (t_10 + (1 : Int)) w20))
    (inR .i64 (t_10 + (1 : Int)) /\ N0 f_1 many_3 t_8 t_9 (t_10 + (1 : Int)) w20))
    (K false w)
def Cp_crowded_l0d (f_1 : Addr) (many_3 : Nat) (t_8 : Sl) (t_9 t_10 : Int) (K : Bool -> World -> Prop) (w : World) : Prop :=
  ∃ (I : Int -> World -> Prop) (μ : Int -> World -> Nat), I t_10 w /\ ∀ (t_101 : Int) (w1 : World), I t_101 w1 ->
    Cp_crowded_b0 f_1 many_3 t_8 t_9 t_101 (fun f_1' many_3' t_8' t_9' t_10' w' => ((f_1' = f_1 /\ many_3' = many_3 /\ t_8' = t_8 /\ t_9' = t_9 /\ True) /\ I t_10' w') /\ μ t_10' w' < μ t_101 w1) K w1
structure Cp_crowded_l0 (f_1 : Addr) (many_3 : Nat) (t_8 : Sl) (t_9 t_10 : Int) (K : Bool -> World -> Prop) (w : World) : Prop where
  out : Cp_crowded_l0d f_1 many_3 t_8 t_9 t_10 K w
def Cp_crowded_sd (f_0_0 f_0_1 f_0_2 : Sl) (f_0_3 f_0_4 : Int) (f_0_5 : Sl) (K : Bool -> World -> Prop) (w : World) : Prop :=
  let w1 := w.alloc (Obj.cells #[(Value.slice f_0_0.p f_0_0.l f_0_0.c), (Value.slice f_0_1.p f_0_1.l f_0_1.c), (Value.slice f_0_2.p f_0_2.l f_0_2.c), (Value.int .i64 f_0_3), (Value.int .i64 f_0_4), (Value.slice f_0_5.p f_0_5.l f_0_5.c)] 65)
  let w2 := w1.alloc (Obj.map #[] 0)
  ∃ x3 : Sl, w2.cell? (Addr.mk w.heap.size 0 none) = some (Value.slice x3.p x3.l x3.c) /\ ∃ x4 : Sl, w2.cell? (Addr.mk w.heap.size 1 none) = some (Value.slice x4.p x4.l x4.c) /\ ∃ x5 : Sl, w2.cell? (Addr.mk w.heap.size 2 none) = some (Value.slice x5.p x5.l x5.c) /\ ∃ x6 : Int, w2.cell? (Addr.mk w.heap.size 3 none) = some (Value.int .i64 x6) /\ ∃ x7 : Int, w2.cell? (Addr.mk w.heap.size 4 none) = some (Value.int .i64 x7) /\ ∃ x8 : Sl, w2.cell? (Addr.mk w.heap.size 5 none) = some (Value.slice x8.p x8.l x8.c) /\ Cp_taken_sh x3 x4 x5 x6 x7 x8 (fun r10 w9 => Cp_crowded_l0 (Addr.mk w.heap.size 0 none) w1.heap.size r10 (r10.l : Int) (0 : Int) K w9) w2
structure Cp_crowded_sh (f_0_0 f_0_1 f_0_2 : Sl) (f_0_3 f_0_4 : Int) (f_0_5 : Sl) (K : Bool -> World -> Prop) (w : World) : Prop where
  out : Cp_crowded_sd f_0_0 f_0_1 f_0_2 f_0_3 f_0_4 f_0_5 K w
def Cp_crowded_P0 (Kv : VW) (ρ : Rho) (vs : List Value) (w : World) : Prop :=
  match ρ, vs with
  | _, [.pointer (some f_1), .map (some many_3), .slice t_8p t_8l t_8c, .int .i64 t_9, .int .i64 t_10] => Cp_crowded_l0 f_1 many_3 ⟨t_8p, t_8l, t_8c⟩ t_9 t_10 (fun r0 w' => Kv (Value.bool r0) w') w
  | _, _ => False
noncomputable def Cp_crowded_S : Pw.Spec := fun vs w Kv =>
  match vs with
  | [.agg ⟨[.slice f_0_0p f_0_0l f_0_0c, .slice f_0_1p f_0_1l f_0_1c, .slice f_0_2p f_0_2l f_0_2c, .int .i64 f_0_3, .int .i64 f_0_4, .slice f_0_5p f_0_5l f_0_5c]⟩] => Cp_crowded_sh ⟨f_0_0p, f_0_0l, f_0_0c⟩ ⟨f_0_1p, f_0_1l, f_0_1c⟩ ⟨f_0_2p, f_0_2l, f_0_2c⟩ f_0_3 f_0_4 ⟨f_0_5p, f_0_5l, f_0_5c⟩ (fun r0 w' => Kv (Value.bool r0) w') w
  | _ => False
noncomputable def Cp_crowded_E : Pw.Env := [(48, Cp_taken_S)]
noncomputable def Cp_crowded_C : Code := (Try.f49.body).getD .skip
noncomputable def Cp_crowded_A (Kv : VW) : Pw.A :=
  (A.seq (A.reg (Pw.rn 2 RA.done))
   (A.seq (A.reg (Pw.rn 2 RA.done))
   (A.seq (A.seq (A.reg (Pw.rn 4 RA.done))
   (A.blk (A.loop [1, 3, 8, 9, 10] (Cp_crowded_P0 Kv) (A.seq (A.reg (RA.run RA.done))
   (A.seq (A.cond A.leaf
   A.leaf)
   (A.seq (A.blk (A.seq (A.reg (Pw.rn 4 RA.done))
   (A.seq (A.reg (Pw.rn 6 RA.done))
   (A.seq (A.reg (Pw.rn 5 (RA.spl 23 (Pw.rn 9 RA.done) (Pw.sk 8 (RA.run RA.done)))))
   (A.cond (A.seq (A.reg (RA.run RA.done))
   A.leaf)
   A.leaf)))))
   (A.reg (Pw.rn 2 RA.done))))))))
   (A.seq (A.reg (RA.run RA.done))
   A.leaf))))
noncomputable def Cp_crowded_O (Kv : VW) : List Ob := (obs Try.prog Cp_crowded_E 34 (Cp_crowded_A Kv) Cp_crowded_C (fun _ => retQ Try.prog Try.f49.results Kv))
theorem Cp_crowded_e (Kv : VW) (f_0_0p : Option Addr) (f_0_0l f_0_0c : Nat) (f_0_1p : Option Addr) (f_0_1l f_0_1c : Nat) (f_0_2p : Option Addr) (f_0_2l f_0_2c : Nat) (f_0_3 f_0_4 : Int) (f_0_5p : Option Addr) (f_0_5l f_0_5c : Nat) (w : World) : Cp_crowded_sd ⟨f_0_0p, f_0_0l, f_0_0c⟩ ⟨f_0_1p, f_0_1l, f_0_1c⟩ ⟨f_0_2p, f_0_2l, f_0_2c⟩ f_0_3 f_0_4 ⟨f_0_5p, f_0_5l, f_0_5c⟩ (fun r0 w' => Kv (Value.bool r0) w') w = W Try.prog Cp_crowded_E 34 (Cp_crowded_A Kv) Cp_crowded_C [] (retQ Try.prog Try.f49.results Kv) [] (startS [(Value.agg #[(Value.slice f_0_0p f_0_0l f_0_0c), (Value.slice f_0_1p f_0_1l f_0_1c), (Value.slice f_0_2p f_0_2l f_0_2c), (Value.int .i64 f_0_3), (Value.int .i64 f_0_4), (Value.slice f_0_5p f_0_5l f_0_5c)])]) w := by kernel_rfl
theorem Cp_crowded_e0 (Kv : VW) (N0 : List Value -> World -> Prop) (ρ : Rho) (f_1 : Addr) (many_3 : Nat) (t_8p : Option Addr) (t_8l t_8c : Nat) (t_9 t_10 : Int) (w : World) : Cp_crowded_b0 f_1 many_3 ⟨t_8p, t_8l, t_8c⟩ t_9 t_10 (fun f_1' many_3' t_8' t_9' t_10' w' => N0 [(Value.pointer (some f_1')), (Value.map (some many_3')), (Value.slice t_8'.p t_8'.l t_8'.c), (Value.int .i64 t_9'), (Value.int .i64 t_10')] w') (fun r0 w' => Kv (Value.bool r0) w') w = goalAt Try.prog Cp_crowded_E 34 (Cp_crowded_O Kv) 0 (N0 :: ρ) [(Value.pointer (some f_1)), (Value.map (some many_3)), (Value.slice t_8p t_8l t_8c), (Value.int .i64 t_9), (Value.int .i64 t_10)] w := by kernel_rfl
theorem Cp_crowded_q0 (Kv : VW) (ρ : Rho) (vs : List Value) (w : World) : labAt (Cp_crowded_O Kv) 0 ρ vs w = Cp_crowded_P0 Kv ρ vs w := by kernel_rfl
def Cp_crowded_I0 (f_10 : Addr) (many_30 : Nat) (t_80 : Sl) (t_90 : Int) (I : Int -> World -> Prop) (vs : List Value) (w : World) : Prop :=
  match vs with
  | [.pointer (some f_1), .map (some many_3), .slice t_8p t_8l t_8c, .int .i64 t_9, .int .i64 t_10] => (f_1 = f_10 /\ many_3 = many_30 /\ ⟨t_8p, t_8l, t_8c⟩ = t_80 /\ t_9 = t_90 /\ True) /\ I t_10 w
  | _ => False
def Cp_crowded_M0 (μ : Int -> World -> Nat) (vs : List Value) (w : World) : Nat :=
  match vs with
  | [.pointer (some _f_1), .map (some _many_3), .slice _t_8p _t_8l _t_8c, .int .i64 _t_9, .int .i64 t_10] => μ t_10 w
  | _ => 0
theorem Cp_crowded_h0 (Kv : VW) : holdsAt Try.prog Cp_crowded_E 34 (Cp_crowded_O Kv) 0 := holdsAt_loop (by kernel_rfl) (fun ρ vs w h => by
  rw [Cp_crowded_q0] at h
  unfold Cp_crowded_P0 at h
  split at h
  · rename_i ρt f_1 many_3 t_8p t_8l t_8c t_9 t_10
    obtain ⟨I, μ, h0, hr⟩ := h.out
    refine ⟨Cp_crowded_I0 f_1 many_3 ⟨t_8p, t_8l, t_8c⟩ t_9 I, Cp_crowded_M0 μ, ⟨⟨rfl, rfl, rfl, rfl, trivial⟩, h0⟩, fun vs w hI => ?_⟩
    unfold Cp_crowded_I0 at hI
    split at hI
    · obtain ⟨⟨h0, h1, h2, h3, _⟩, hI⟩ := hI
      cases h0; cases h1; cases h2; cases h3
      rw [← Cp_crowded_e0]
      exact hr _ _ hI
    · exact hI.elim
  · exact h.elim)
theorem Cp_crowded_n (Kv : VW) : obAt (Cp_crowded_O Kv) 1 = none := by kernel_rfl
theorem Cp_crowded_h (Kv : VW) : ∀ k, holdsAt Try.prog Cp_crowded_E 34 (Cp_crowded_O Kv) k := fun k => match k with
  | 0 => Cp_crowded_h0 Kv
  | _k + 1 => holdsAt_ge (Cp_crowded_n Kv) (Nat.le_add_left _ _)
theorem Cp_crowded_ok : Sound Try.prog 49 Cp_crowded_S := ⟨Try.call49, fun vs w Kv h => by
  unfold Cp_crowded_S at h
  split at h
  · have h := h.out
    rw [Cp_crowded_e] at h
    exact calls_sound (Γ := Cp_crowded_E) progMixed ⟨.inl Cp_taken_ok, trivial⟩ Try.func49 (code := Cp_crowded_C) (by kernel_rfl) (Cp_crowded_A Kv) Kv (holds_all (Cp_crowded_h Kv)) (Nat.le_of_ble_eq_true (by kernel_rfl)) h
  · exact h.elim⟩
/-! Cp_may_1 -/
def Cp_may_1_sd (c_0_0 c_0_1 : Int) (c_0_2 c_0_3 : Int) (t_1 t_2 : Addr) (K : Bool -> World -> Prop) (w : World) : Prop :=
  let w1 := w.alloc (Obj.cells #[(Value.int .i64 c_0_0), (Value.int .i64 c_0_1), (Value.int .i64 c_0_2), (Value.int .i64 c_0_3)] 56)
  ∃ x2 : Int, w1.cell? (Addr.mk w.heap.size 0 none) = some (Value.int .i64 x2) /\ ∃ x3 : Int, w1.cell? t_1 = some (Value.int .i64 x3) /\ cnd (x2 == x3)
    (∃ x4 : Int, w1.cell? (Addr.mk w.heap.size 1 none) = some (Value.int .i64 x4) /\ ∃ x5 : Int, w1.cell? t_2 = some (Value.int .i64 x5) /\ K (x4 == x5) w1)
    (K false w1)
structure Cp_may_1_sh (c_0_0 c_0_1 : Int) (c_0_2 c_0_3 : Int) (t_1 t_2 : Addr) (K : Bool -> World -> Prop) (w : World) : Prop where
  out : Cp_may_1_sd c_0_0 c_0_1 c_0_2 c_0_3 t_1 t_2 K w
noncomputable def Cp_may_1_S : Pw.Spec := fun vs w Kv =>
  match vs with
  | [.agg ⟨[.int .i64 c_0_0, .int .i64 c_0_1, .int .i64 c_0_2, .int .i64 c_0_3]⟩, .pointer (some t_1), .pointer (some t_2)] => Cp_may_1_sh c_0_0 c_0_1 c_0_2 c_0_3 t_1 t_2 (fun r0 w' => Kv (Value.bool r0) w') w
  | _ => False
noncomputable def Cp_may_1_E : Pw.Env := []
noncomputable def Cp_may_1_C : Code := (Try.f81.body).getD .skip
noncomputable def Cp_may_1_A (_Kv : VW) : Pw.A :=
  (A.seq (A.reg (Pw.rn 2 RA.done))
   (A.seq (A.reg (Pw.rn 5 (RA.spl 9 (Pw.rn 6 RA.done) (Pw.sk 4 (Pw.rn 2 RA.done)))))
   A.leaf))
noncomputable def Cp_may_1_O (Kv : VW) : List Ob := (obs Try.prog Cp_may_1_E 15 (Cp_may_1_A Kv) Cp_may_1_C (fun _ => retQ Try.prog Try.f81.results Kv))
theorem Cp_may_1_e (Kv : VW) (c_0_0 c_0_1 : Int) (c_0_2 c_0_3 : Int) (t_1 t_2 : Addr) (w : World) : Cp_may_1_sd c_0_0 c_0_1 c_0_2 c_0_3 t_1 t_2 (fun r0 w' => Kv (Value.bool r0) w') w = W Try.prog Cp_may_1_E 15 (Cp_may_1_A Kv) Cp_may_1_C [] (retQ Try.prog Try.f81.results Kv) [] (startS [(Value.agg #[(Value.int .i64 c_0_0), (Value.int .i64 c_0_1), (Value.int .i64 c_0_2), (Value.int .i64 c_0_3)]), (Value.pointer (some t_1)), (Value.pointer (some t_2))]) w := by kernel_rfl
theorem Cp_may_1_n (Kv : VW) : obAt (Cp_may_1_O Kv) 0 = none := by kernel_rfl
theorem Cp_may_1_h (Kv : VW) : ∀ k, holdsAt Try.prog Cp_may_1_E 15 (Cp_may_1_O Kv) k := fun _ => holdsAt_ge (Cp_may_1_n Kv) (Nat.zero_le _)
theorem Cp_may_1_ok : Sound Try.prog 81 Cp_may_1_S := ⟨Try.call81, fun vs w Kv h => by
  unfold Cp_may_1_S at h
  split at h
  · have h := h.out
    rw [Cp_may_1_e] at h
    exact calls_sound (Γ := Cp_may_1_E) progMixed trivial Try.func81 (code := Cp_may_1_C) (by kernel_rfl) (Cp_may_1_A Kv) Kv (holds_all (Cp_may_1_h Kv)) (Nat.le_of_ble_eq_true (by kernel_rfl)) h
  · exact h.elim⟩
/-! Cp_may -/
def Cp_may_sd (f_0_0 f_0_1 f_0_2 : Sl) (f_0_3 f_0_4 : Int) (f_0_5 : Sl) (lot_1 bidder_2 : Int) (K : Bool -> World -> Prop) (w : World) : Prop :=
  let w1 := w.alloc (Obj.cells #[(Value.slice f_0_0.p f_0_0.l f_0_0.c), (Value.slice f_0_1.p f_0_1.l f_0_1.c), (Value.slice f_0_2.p f_0_2.l f_0_2.c), (Value.int .i64 f_0_3), (Value.int .i64 f_0_4), (Value.slice f_0_5.p f_0_5.l f_0_5.c)] 65)
  let w2 := w1.alloc (Obj.cells #[(Value.int .i64 lot_1)] 3)
  let w3 := w2.alloc (Obj.cells #[(Value.int .i64 bidder_2)] 3)
  ∃ x4 : Sl, w3.cell? (Addr.mk w.heap.size 0 none) = some (Value.slice x4.p x4.l x4.c) /\ ∃ x5 : Int, w3.cell? (Addr.mk w1.heap.size 0 none) = some (Value.int .i64 x5) /\ slices_Index_sh x4 x5 (fun r7 w6 => ∃ x8 : Sl, w6.cell? (Addr.mk w.heap.size 5 none) = some (Value.slice x8.p x8.l x8.c) /\ cnd (decide (r7 < (x8.l : Int)))
    (let w9 := w6.drew
  ∃ x10 : Sl, w9.cell? (Addr.mk w.heap.size 5 none) = some (Value.slice x10.p x10.l x10.c) /\ nz x10.p fun a11 => (0 <= r7 /\ r7 < (x10.l : Nat)) /\ ∃ x12 : Int, w9.cell? (a11.add (r7.toNat * 1)) = some (Value.int .i64 x12) /\ cnd (decide (x12 >= (0 : Int)))
    (∃ x13 : Sl, w9.cell? (Addr.mk w.heap.size 1 none) = some (Value.slice x13.p x13.l x13.c) /\ ∃ x14 : Sl, w9.cell? (Addr.mk w.heap.size 5 none) = some (Value.slice x14.p x14.l x14.c) /\ nz x14.p fun a15 => (0 <= r7 /\ r7 < (x14.l : Nat)) /\ ∃ x16 : Int, w9.cell? (a15.add (r7.toNat * 1)) = some (Value.int .i64 x16) /\ nz x13.p fun a17 => (0 <= x16 /\ x16 < (x13.l : Nat)) /\ ∃ x18 : Int, w9.cell? ((a17.add (x16.toNat * 4)).add 1) = some (Value.int .i64 x18) /\ ∃ x19 : Int, w9.cell? (Addr.mk w2.heap.size 0 none) = some (Value.int .i64 x19) /\ K (x18 == x19) w9)
    (K false w9))
    (∃ x20 : Sl, w6.cell? (Addr.mk w.heap.size 1 none) = some (Value.slice x20.p x20.l x20.c) /\ slices_ContainsFunc_apiChoice_sh x20 (Value.func (.func 81) #[] #[(Value.pointer (some (Addr.mk w1.heap.size 0 none))), (Value.pointer (some (Addr.mk w2.heap.size 0 none)))]) (fun r22 w21 => K r22 w21) w6)) w3
structure Cp_may_sh (f_0_0 f_0_1 f_0_2 : Sl) (f_0_3 f_0_4 : Int) (f_0_5 : Sl) (lot_1 bidder_2 : Int) (K : Bool -> World -> Prop) (w : World) : Prop where
  out : Cp_may_sd f_0_0 f_0_1 f_0_2 f_0_3 f_0_4 f_0_5 lot_1 bidder_2 K w
noncomputable def Cp_may_S : Pw.Spec := fun vs w Kv =>
  match vs with
  | [.agg ⟨[.slice f_0_0p f_0_0l f_0_0c, .slice f_0_1p f_0_1l f_0_1c, .slice f_0_2p f_0_2l f_0_2c, .int .i64 f_0_3, .int .i64 f_0_4, .slice f_0_5p f_0_5l f_0_5c]⟩, .int .i64 lot_1, .int .i64 bidder_2] => Cp_may_sh ⟨f_0_0p, f_0_0l, f_0_0c⟩ ⟨f_0_1p, f_0_1l, f_0_1c⟩ ⟨f_0_2p, f_0_2l, f_0_2c⟩ f_0_3 f_0_4 ⟨f_0_5p, f_0_5l, f_0_5c⟩ lot_1 bidder_2 (fun r0 w' => Kv (Value.bool r0) w') w
  | _ => False
noncomputable def Cp_may_E : Pw.Env := [(55, slices_Index_S), (58, slices_ContainsFunc_apiChoice_S)]
noncomputable def Cp_may_C : Code := (Try.f70.body).getD .skip
noncomputable def Cp_may_A (_Kv : VW) : Pw.A :=
  (A.seq (A.reg (Pw.rn 4 RA.done))
   (A.seq (A.seq (A.reg (Pw.rn 6 RA.done))
   (A.seq (A.reg (Pw.rn 5 RA.done))
   (A.cond (A.seq (A.drp (DA.pur 0 (DA.pur 1 (DA.pur 2 (DA.pur 3 (DA.pur 4 (DA.pur 5 (DA.pur 6 (DA.spl 24 (DA.pur 7 (DA.pur 8 (DA.pur 9 (DA.pur 10 (DA.pur 11 (DA.pur 12 (DA.pur 13 (DA.pur 14 (DA.pur 15 (DA.pur 16 (DA.pur 17 (DA.pur 18 (DA.pur 19 (DA.pur 20 (DA.pur 21 DA.done))))))))))))))) (DA.skp 7 (DA.skp 8 (DA.skp 9 (DA.skp 10 (DA.skp 11 (DA.skp 12 (DA.skp 13 (DA.skp 14 (DA.skp 15 (DA.skp 16 (DA.skp 17 (DA.skp 18 (DA.skp 19 (DA.pur 20 (DA.pur 21 DA.done))))))))))))))))))))))))
   A.leaf)
   A.leaf)))
   (A.seq (A.reg (Pw.rn 6 RA.done))
   A.leaf)))
noncomputable def Cp_may_O (Kv : VW) : List Ob := (obs Try.prog Cp_may_E 44 (Cp_may_A Kv) Cp_may_C (fun _ => retQ Try.prog Try.f70.results Kv))
theorem Cp_may_e (Kv : VW) (f_0_0p : Option Addr) (f_0_0l f_0_0c : Nat) (f_0_1p : Option Addr) (f_0_1l f_0_1c : Nat) (f_0_2p : Option Addr) (f_0_2l f_0_2c : Nat) (f_0_3 f_0_4 : Int) (f_0_5p : Option Addr) (f_0_5l f_0_5c : Nat) (lot_1 bidder_2 : Int) (w : World) : Cp_may_sd ⟨f_0_0p, f_0_0l, f_0_0c⟩ ⟨f_0_1p, f_0_1l, f_0_1c⟩ ⟨f_0_2p, f_0_2l, f_0_2c⟩ f_0_3 f_0_4 ⟨f_0_5p, f_0_5l, f_0_5c⟩ lot_1 bidder_2 (fun r0 w' => Kv (Value.bool r0) w') w = W Try.prog Cp_may_E 44 (Cp_may_A Kv) Cp_may_C [] (retQ Try.prog Try.f70.results Kv) [] (startS [(Value.agg #[(Value.slice f_0_0p f_0_0l f_0_0c), (Value.slice f_0_1p f_0_1l f_0_1c), (Value.slice f_0_2p f_0_2l f_0_2c), (Value.int .i64 f_0_3), (Value.int .i64 f_0_4), (Value.slice f_0_5p f_0_5l f_0_5c)]), (Value.int .i64 lot_1), (Value.int .i64 bidder_2)]) w := by kernel_rfl
theorem Cp_may_n (Kv : VW) : obAt (Cp_may_O Kv) 0 = none := by kernel_rfl
theorem Cp_may_h (Kv : VW) : ∀ k, holdsAt Try.prog Cp_may_E 44 (Cp_may_O Kv) k := fun _ => holdsAt_ge (Cp_may_n Kv) (Nat.zero_le _)
theorem Cp_may_ok : Sound Try.prog 70 Cp_may_S := ⟨Try.call70, fun vs w Kv h => by
  unfold Cp_may_S at h
  split at h
  · have h := h.out
    rw [Cp_may_e] at h
    exact calls_sound (Γ := Cp_may_E) progMixed ⟨.inl slices_Index_ok, .inl slices_ContainsFunc_apiChoice_ok, trivial⟩ Try.func70 (code := Cp_may_C) (by kernel_rfl) (Cp_may_A Kv) Kv (holds_all (Cp_may_h Kv)) (Nat.le_of_ble_eq_true (by kernel_rfl)) h
  · exact h.elim⟩
/-! Cp_offs_1 -/
def Cp_offs_1_sd (id_0 : Int) (t_1 t_2 : Addr) (K : Bool -> World -> Prop) (w : World) : Prop :=
  ∃ x1 : Sl, w.cell? t_1 = some (Value.slice x1.p x1.l x1.c) /\ ∃ x2 : Sl, w.cell? (t_1.add 1) = some (Value.slice x2.p x2.l x2.c) /\ ∃ x3 : Sl, w.cell? (t_1.add 2) = some (Value.slice x3.p x3.l x3.c) /\ ∃ x4 : Int, w.cell? (t_1.add 3) = some (Value.int .i64 x4) /\ ∃ x5 : Int, w.cell? (t_1.add 4) = some (Value.int .i64 x5) /\ ∃ x6 : Sl, w.cell? (t_1.add 5) = some (Value.slice x6.p x6.l x6.c) /\ ∃ x7 : Int, w.cell? t_2 = some (Value.int .i64 x7) /\ Cp_may_sh x1 x2 x3 x4 x5 x6 id_0 x7 (fun r9 w8 => K r9 w8) w
structure Cp_offs_1_sh (id_0 : Int) (t_1 t_2 : Addr) (K : Bool -> World -> Prop) (w : World) : Prop where
  out : Cp_offs_1_sd id_0 t_1 t_2 K w
noncomputable def Cp_offs_1_S : Pw.Spec := fun vs w Kv =>
  match vs with
  | [.int .i64 id_0, .pointer (some t_1), .pointer (some t_2)] => Cp_offs_1_sh id_0 t_1 t_2 (fun r0 w' => Kv (Value.bool r0) w') w
  | _ => False
noncomputable def Cp_offs_1_E : Pw.Env := [(70, Cp_may_S)]
noncomputable def Cp_offs_1_C : Code := (Try.f69.body).getD .skip
noncomputable def Cp_offs_1_A (_Kv : VW) : Pw.A :=
  (A.seq (A.reg (RA.run RA.done))
   (A.seq (A.reg (Pw.rn 6 RA.done))
   A.leaf))
noncomputable def Cp_offs_1_O (Kv : VW) : List Ob := (obs Try.prog Cp_offs_1_E 10 (Cp_offs_1_A Kv) Cp_offs_1_C (fun _ => retQ Try.prog Try.f69.results Kv))
theorem Cp_offs_1_e (Kv : VW) (id_0 : Int) (t_1 t_2 : Addr) (w : World) : Cp_offs_1_sd id_0 t_1 t_2 (fun r0 w' => Kv (Value.bool r0) w') w = W Try.prog Cp_offs_1_E 10 (Cp_offs_1_A Kv) Cp_offs_1_C [] (retQ Try.prog Try.f69.results Kv) [] (startS [(Value.int .i64 id_0), (Value.pointer (some t_1)), (Value.pointer (some t_2))]) w := by kernel_rfl
theorem Cp_offs_1_n (Kv : VW) : obAt (Cp_offs_1_O Kv) 0 = none := by kernel_rfl
theorem Cp_offs_1_h (Kv : VW) : ∀ k, holdsAt Try.prog Cp_offs_1_E 10 (Cp_offs_1_O Kv) k := fun _ => holdsAt_ge (Cp_offs_1_n Kv) (Nat.zero_le _)
theorem Cp_offs_1_ok : Sound Try.prog 69 Cp_offs_1_S := ⟨Try.call69, fun vs w Kv h => by
  unfold Cp_offs_1_S at h
  split at h
  · have h := h.out
    rw [Cp_offs_1_e] at h
    exact calls_sound (Γ := Cp_offs_1_E) progMixed ⟨.inl Cp_may_ok, trivial⟩ Try.func69 (code := Cp_offs_1_C) (by kernel_rfl) (Cp_offs_1_A Kv) Kv (holds_all (Cp_offs_1_h Kv)) (Nat.le_of_ble_eq_true (by kernel_rfl)) h
  · exact h.elim⟩
/-! Cp_offs -/
def Cp_offs_b0 (f_1 : Addr) (sum_3 : Int) (t_8 : Sl) (t_9 t_10 : Int) (N0 : Addr -> Int -> Sl -> Int -> Int -> World -> Prop) (K : Int -> World -> Prop) (w : World) : Prop :=
  cnd (decide (t_10 < t_9))
    (nz t_8.p fun a3 => (0 <= t_10 /\ t_10 < (t_8.l : Nat)) /\ ∃ x4 : Int, w.cell? (a3.add (t_10.toNat * 3)) = some (Value.int .i64 x4) /\ ∃ x5 : Sl, w.cell? ((a3.add (t_10.toNat * 3)).add 1) = some (Value.slice x5.p x5.l x5.c) /\ ∃ x6 : Int, w.cell? ((a3.add (t_10.toNat * 3)).add 2) = some (Value.int .i64 x6) /\ let w7 := w.alloc (Obj.cells #[(Value.int .i64 0), (Value.slice none 0 0), (Value.int .i64 0)] 58)
  stN w7 (Addr.mk w.heap.size 0 none) [(Value.int .i64 x4), (Value.slice x5.p x5.l x5.c), (Value.int .i64 x6)] fun w8 => ∃ x9 : Sl, w8.cell? (Addr.mk w.heap.size 1 none) = some (Value.slice x9.p x9.l x9.c) /\ Cb_all_sh x9 (Value.func (.func 69) #[] #[(Value.pointer (some f_1)), (Value.pointer (some (Addr.mk w.heap.size 0 none)))]) (fun r11 w10 => cnd r11
    (∃ x12 : Int, w10.cell? (Addr.mk w.heap.size 2 none) = some (Value.int .i64 x12) /\ inR .i64 (sum_3 + x12) /\ inR .i64 (t_10 + (1 : Int)) /\ N0 f_1 (sum_3 + x12) t_8 t_9 (t_10 + (1 : Int)) w10)
    (inR .i64 (t_10 + (1 : Int)) /\ N0 f_1 sum_3 t_8 t_9 (t_10 + (1 : Int)) w10)) w8)
    (K sum_3 w)
def Cp_offs_l0d (f_1 : Addr) (sum_3 : Int) (t_8 : Sl) (t_9 t_10 : Int) (K : Int -> World -> Prop) (w : World) : Prop :=
  ∃ (I : Int -> Int -> World -> Prop) (μ : Int -> Int -> World -> Nat), I sum_3 t_10 w /\ ∀ (sum_31 t_101 : Int) (w1 : World), I sum_31 t_101 w1 ->
    Cp_offs_b0 f_1 sum_31 t_8 t_9 t_101 (fun f_1' sum_3' t_8' t_9' t_10' w' => ((f_1' = f_1 /\ t_8' = t_8 /\ t_9' = t_9 /\ True) /\ I sum_3' t_10' w') /\ μ sum_3' t_10' w' < μ sum_31 t_101 w1) K w1
structure Cp_offs_l0 (f_1 : Addr) (sum_3 : Int) (t_8 : Sl) (t_9 t_10 : Int) (K : Int -> World -> Prop) (w : World) : Prop where
  out : Cp_offs_l0d f_1 sum_3 t_8 t_9 t_10 K w
def Cp_offs_sd (f_0_0 f_0_1 f_0_2 : Sl) (f_0_3 f_0_4 : Int) (f_0_5 : Sl) (K : Int -> World -> Prop) (w : World) : Prop :=
  let w1 := w.alloc (Obj.cells #[(Value.slice f_0_0.p f_0_0.l f_0_0.c), (Value.slice f_0_1.p f_0_1.l f_0_1.c), (Value.slice f_0_2.p f_0_2.l f_0_2.c), (Value.int .i64 f_0_3), (Value.int .i64 f_0_4), (Value.slice f_0_5.p f_0_5.l f_0_5.c)] 65)
  ∃ x2 : Sl, w1.cell? (Addr.mk w.heap.size 2 none) = some (Value.slice x2.p x2.l x2.c) /\ Cp_offs_l0 (Addr.mk w.heap.size 0 none) (0 : Int) x2 (x2.l : Int) (0 : Int) K w1
structure Cp_offs_sh (f_0_0 f_0_1 f_0_2 : Sl) (f_0_3 f_0_4 : Int) (f_0_5 : Sl) (K : Int -> World -> Prop) (w : World) : Prop where
  out : Cp_offs_sd f_0_0 f_0_1 f_0_2 f_0_3 f_0_4 f_0_5 K w
def Cp_offs_P0 (Kv : VW) (ρ : Rho) (vs : List Value) (w : World) : Prop :=
  match ρ, vs with
  | _, [.pointer (some f_1), .int .i64 sum_3, .slice t_8p t_8l t_8c, .int .i64 t_9, .int .i64 t_10] => Cp_offs_l0 f_1 sum_3 ⟨t_8p, t_8l, t_8c⟩ t_9 t_10 (fun r0 w' => Kv (Value.int .i64 r0) w') w
  | _, _ => False
noncomputable def Cp_offs_S : Pw.Spec := fun vs w Kv =>
  match vs with
  | [.agg ⟨[.slice f_0_0p f_0_0l f_0_0c, .slice f_0_1p f_0_1l f_0_1c, .slice f_0_2p f_0_2l f_0_2c, .int .i64 f_0_3, .int .i64 f_0_4, .slice f_0_5p f_0_5l f_0_5c]⟩] => Cp_offs_sh ⟨f_0_0p, f_0_0l, f_0_0c⟩ ⟨f_0_1p, f_0_1l, f_0_1c⟩ ⟨f_0_2p, f_0_2l, f_0_2c⟩ f_0_3 f_0_4 ⟨f_0_5p, f_0_5l, f_0_5c⟩ (fun r0 w' => Kv (Value.int .i64 r0) w') w
  | _ => False
noncomputable def Cp_offs_E : Pw.Env := [(39, Cb_all_S)]
noncomputable def Cp_offs_C : Code := (Try.f54.body).getD .skip
noncomputable def Cp_offs_A (Kv : VW) : Pw.A :=
  (A.seq (A.reg (Pw.rn 2 RA.done))
   (A.seq (A.reg (RA.run RA.done))
   (A.seq (A.seq (A.reg (Pw.rn 5 RA.done))
   (A.blk (A.loop [1, 3, 8, 9, 10] (Cp_offs_P0 Kv) (A.seq (A.reg (RA.run RA.done))
   (A.seq (A.cond A.leaf
   A.leaf)
   (A.seq (A.blk (A.seq (A.reg (Pw.rn 4 RA.done))
   (A.seq (A.reg (Pw.rn 4 RA.done))
   (A.cond (A.reg (Pw.rn 5 RA.done))
   A.leaf))))
   (A.reg (Pw.rn 2 RA.done))))))))
   (A.seq (A.reg (Pw.rn 2 RA.done))
   A.leaf))))
noncomputable def Cp_offs_O (Kv : VW) : List Ob := (obs Try.prog Cp_offs_E 24 (Cp_offs_A Kv) Cp_offs_C (fun _ => retQ Try.prog Try.f54.results Kv))
theorem Cp_offs_e (Kv : VW) (f_0_0p : Option Addr) (f_0_0l f_0_0c : Nat) (f_0_1p : Option Addr) (f_0_1l f_0_1c : Nat) (f_0_2p : Option Addr) (f_0_2l f_0_2c : Nat) (f_0_3 f_0_4 : Int) (f_0_5p : Option Addr) (f_0_5l f_0_5c : Nat) (w : World) : Cp_offs_sd ⟨f_0_0p, f_0_0l, f_0_0c⟩ ⟨f_0_1p, f_0_1l, f_0_1c⟩ ⟨f_0_2p, f_0_2l, f_0_2c⟩ f_0_3 f_0_4 ⟨f_0_5p, f_0_5l, f_0_5c⟩ (fun r0 w' => Kv (Value.int .i64 r0) w') w = W Try.prog Cp_offs_E 24 (Cp_offs_A Kv) Cp_offs_C [] (retQ Try.prog Try.f54.results Kv) [] (startS [(Value.agg #[(Value.slice f_0_0p f_0_0l f_0_0c), (Value.slice f_0_1p f_0_1l f_0_1c), (Value.slice f_0_2p f_0_2l f_0_2c), (Value.int .i64 f_0_3), (Value.int .i64 f_0_4), (Value.slice f_0_5p f_0_5l f_0_5c)])]) w := by kernel_rfl
theorem Cp_offs_e0 (Kv : VW) (N0 : List Value -> World -> Prop) (ρ : Rho) (f_1 : Addr) (sum_3 : Int) (t_8p : Option Addr) (t_8l t_8c : Nat) (t_9 t_10 : Int) (w : World) : Cp_offs_b0 f_1 sum_3 ⟨t_8p, t_8l, t_8c⟩ t_9 t_10 (fun f_1' sum_3' t_8' t_9' t_10' w' => N0 [(Value.pointer (some f_1')), (Value.int .i64 sum_3'), (Value.slice t_8'.p t_8'.l t_8'.c), (Value.int .i64 t_9'), (Value.int .i64 t_10')] w') (fun r0 w' => Kv (Value.int .i64 r0) w') w = goalAt Try.prog Cp_offs_E 24 (Cp_offs_O Kv) 0 (N0 :: ρ) [(Value.pointer (some f_1)), (Value.int .i64 sum_3), (Value.slice t_8p t_8l t_8c), (Value.int .i64 t_9), (Value.int .i64 t_10)] w := by kernel_rfl
theorem Cp_offs_q0 (Kv : VW) (ρ : Rho) (vs : List Value) (w : World) : labAt (Cp_offs_O Kv) 0 ρ vs w = Cp_offs_P0 Kv ρ vs w := by kernel_rfl
def Cp_offs_I0 (f_10 : Addr) (t_80 : Sl) (t_90 : Int) (I : Int -> Int -> World -> Prop) (vs : List Value) (w : World) : Prop :=
  match vs with
  | [.pointer (some f_1), .int .i64 sum_3, .slice t_8p t_8l t_8c, .int .i64 t_9, .int .i64 t_10] => (f_1 = f_10 /\ ⟨t_8p, t_8l, t_8c⟩ = t_80 /\ t_9 = t_90 /\ True) /\ I sum_3 t_10 w
  | _ => False
def Cp_offs_M0 (μ : Int -> Int -> World -> Nat) (vs : List Value) (w : World) : Nat :=
  match vs with
  | [.pointer (some _f_1), .int .i64 sum_3, .slice _t_8p _t_8l _t_8c, .int .i64 _t_9, .int .i64 t_10] => μ sum_3 t_10 w
  | _ => 0
theorem Cp_offs_h0 (Kv : VW) : holdsAt Try.prog Cp_offs_E 24 (Cp_offs_O Kv) 0 := holdsAt_loop (by kernel_rfl) (fun ρ vs w h => by
  rw [Cp_offs_q0] at h
  unfold Cp_offs_P0 at h
  split at h
  · rename_i ρt f_1 sum_3 t_8p t_8l t_8c t_9 t_10
    obtain ⟨I, μ, h0, hr⟩ := h.out
    refine ⟨Cp_offs_I0 f_1 ⟨t_8p, t_8l, t_8c⟩ t_9 I, Cp_offs_M0 μ, ⟨⟨rfl, rfl, rfl, trivial⟩, h0⟩, fun vs w hI => ?_⟩
    unfold Cp_offs_I0 at hI
    split at hI
    · obtain ⟨⟨h0, h1, h2, _⟩, hI⟩ := hI
      cases h0; cases h1; cases h2
      rw [← Cp_offs_e0]
      exact hr _ _ _ hI
    · exact hI.elim
  · exact h.elim)
theorem Cp_offs_n (Kv : VW) : obAt (Cp_offs_O Kv) 1 = none := by kernel_rfl
theorem Cp_offs_h (Kv : VW) : ∀ k, holdsAt Try.prog Cp_offs_E 24 (Cp_offs_O Kv) k := fun k => match k with
  | 0 => Cp_offs_h0 Kv
  | _k + 1 => holdsAt_ge (Cp_offs_n Kv) (Nat.le_add_left _ _)
theorem Cp_offs_ok : Sound Try.prog 54 Cp_offs_S := ⟨Try.call54, fun vs w Kv h => by
  unfold Cp_offs_S at h
  split at h
  · have h := h.out
    rw [Cp_offs_e] at h
    exact calls_sound (Γ := Cp_offs_E) progMixed ⟨.inl Cb_all_ok, trivial⟩ Try.func54 (code := Cp_offs_C) (by kernel_rfl) (Cp_offs_A Kv) Kv (holds_all (Cp_offs_h Kv)) (Nat.le_of_ble_eq_true (by kernel_rfl)) h
  · exact h.elim⟩
/-! Cp_least -/
def Cp_least_b0 (f_1 : Addr) (sum_3 : Int) (t_7 : Sl) (t_8 t_9 : Int) (N0 : Addr -> Int -> Sl -> Int -> Int -> World -> Prop) (K : Int -> World -> Prop) (w : World) : Prop :=
  cnd (decide (t_9 < t_8))
    (nz t_7.p fun a10 => (0 <= t_9 /\ t_9 < (t_7.l : Nat)) /\ ∃ x11 : Int, w.cell? (a10.add (t_9.toNat * 4)) = some (Value.int .i64 x11) /\ ∃ x12 : Int, w.cell? ((a10.add (t_9.toNat * 4)).add 1) = some (Value.int .i64 x12) /\ ∃ x13 : Int, w.cell? ((a10.add (t_9.toNat * 4)).add 2) = some (Value.int .i64 x13) /\ ∃ x14 : Int, w.cell? ((a10.add (t_9.toNat * 4)).add 3) = some (Value.int .i64 x14) /\ let w15 := w.alloc (Obj.cells #[(Value.int .i64 0), (Value.int .i64 0), (Value.int .i64 0), (Value.int .i64 0)] 56)
  stN w15 (Addr.mk w.heap.size 0 none) [(Value.int .i64 x11), (Value.int .i64 x12), (Value.int .i64 x13), (Value.int .i64 x14)] fun w16 => ∃ x17 : Int, w16.cell? (Addr.mk w.heap.size 2 none) = some (Value.int .i64 x17) /\ inR .i64 (sum_3 + x17) /\ inR .i64 (t_9 + (1 : Int)) /\ N0 f_1 (sum_3 + x17) t_7 t_8 (t_9 + (1 : Int)) w16)
    (∃ x18 : Sl, w.cell? f_1 = some (Value.slice x18.p x18.l x18.c) /\ ∃ x19 : Sl, w.cell? (f_1.add 1) = some (Value.slice x19.p x19.l x19.c) /\ ∃ x20 : Sl, w.cell? (f_1.add 2) = some (Value.slice x20.p x20.l x20.c) /\ ∃ x21 : Int, w.cell? (f_1.add 3) = some (Value.int .i64 x21) /\ ∃ x22 : Int, w.cell? (f_1.add 4) = some (Value.int .i64 x22) /\ ∃ x23 : Sl, w.cell? (f_1.add 5) = some (Value.slice x23.p x23.l x23.c) /\ Cp_offs_sh x18 x19 x20 x21 x22 x23 (fun r25 w24 => inR .i64 (sum_3 - r25) /\ K (max (0 : Int) (sum_3 - r25)) w24) w)
def Cp_least_l0d (f_1 : Addr) (sum_3 : Int) (t_7 : Sl) (t_8 t_9 : Int) (K : Int -> World -> Prop) (w : World) : Prop :=
  ∃ (I : Int -> Int -> World -> Prop) (μ : Int -> Int -> World -> Nat), I sum_3 t_9 w /\ ∀ (sum_31 t_91 : Int) (w1 : World), I sum_31 t_91 w1 ->
    Cp_least_b0 f_1 sum_31 t_7 t_8 t_91 (fun f_1' sum_3' t_7' t_8' t_9' w' => ((f_1' = f_1 /\ t_7' = t_7 /\ t_8' = t_8 /\ True) /\ I sum_3' t_9' w') /\ μ sum_3' t_9' w' < μ sum_31 t_91 w1) K w1
structure Cp_least_l0 (f_1 : Addr) (sum_3 : Int) (t_7 : Sl) (t_8 t_9 : Int) (K : Int -> World -> Prop) (w : World) : Prop where
  out : Cp_least_l0d f_1 sum_3 t_7 t_8 t_9 K w
def Cp_least_sd (f_0_0 f_0_1 f_0_2 : Sl) (f_0_3 f_0_4 : Int) (f_0_5 : Sl) (K : Int -> World -> Prop) (w : World) : Prop :=
  let w1 := w.alloc (Obj.cells #[(Value.slice f_0_0.p f_0_0.l f_0_0.c), (Value.slice f_0_1.p f_0_1.l f_0_1.c), (Value.slice f_0_2.p f_0_2.l f_0_2.c), (Value.int .i64 f_0_3), (Value.int .i64 f_0_4), (Value.slice f_0_5.p f_0_5.l f_0_5.c)] 65)
  ∃ x2 : Sl, w1.cell? (Addr.mk w.heap.size 0 none) = some (Value.slice x2.p x2.l x2.c) /\ ∃ x3 : Sl, w1.cell? (Addr.mk w.heap.size 1 none) = some (Value.slice x3.p x3.l x3.c) /\ ∃ x4 : Sl, w1.cell? (Addr.mk w.heap.size 2 none) = some (Value.slice x4.p x4.l x4.c) /\ ∃ x5 : Int, w1.cell? (Addr.mk w.heap.size 3 none) = some (Value.int .i64 x5) /\ ∃ x6 : Int, w1.cell? (Addr.mk w.heap.size 4 none) = some (Value.int .i64 x6) /\ ∃ x7 : Sl, w1.cell? (Addr.mk w.heap.size 5 none) = some (Value.slice x7.p x7.l x7.c) /\ Cp_taken_sh x2 x3 x4 x5 x6 x7 (fun r9 w8 => Cp_least_l0 (Addr.mk w.heap.size 0 none) (0 : Int) r9 (r9.l : Int) (0 : Int) K w8) w1
structure Cp_least_sh (f_0_0 f_0_1 f_0_2 : Sl) (f_0_3 f_0_4 : Int) (f_0_5 : Sl) (K : Int -> World -> Prop) (w : World) : Prop where
  out : Cp_least_sd f_0_0 f_0_1 f_0_2 f_0_3 f_0_4 f_0_5 K w
def Cp_least_P0 (Kv : VW) (ρ : Rho) (vs : List Value) (w : World) : Prop :=
  match ρ, vs with
  | _, [.pointer (some f_1), .int .i64 sum_3, .slice t_7p t_7l t_7c, .int .i64 t_8, .int .i64 t_9] => Cp_least_l0 f_1 sum_3 ⟨t_7p, t_7l, t_7c⟩ t_8 t_9 (fun r0 w' => Kv (Value.int .i64 r0) w') w
  | _, _ => False
noncomputable def Cp_least_S : Pw.Spec := fun vs w Kv =>
  match vs with
  | [.agg ⟨[.slice f_0_0p f_0_0l f_0_0c, .slice f_0_1p f_0_1l f_0_1c, .slice f_0_2p f_0_2l f_0_2c, .int .i64 f_0_3, .int .i64 f_0_4, .slice f_0_5p f_0_5l f_0_5c]⟩] => Cp_least_sh ⟨f_0_0p, f_0_0l, f_0_0c⟩ ⟨f_0_1p, f_0_1l, f_0_1c⟩ ⟨f_0_2p, f_0_2l, f_0_2c⟩ f_0_3 f_0_4 ⟨f_0_5p, f_0_5l, f_0_5c⟩ (fun r0 w' => Kv (Value.int .i64 r0) w') w
  | _ => False
noncomputable def Cp_least_E : Pw.Env := [(48, Cp_taken_S), (54, Cp_offs_S)]
noncomputable def Cp_least_C : Code := (Try.f32.body).getD .skip
noncomputable def Cp_least_A (Kv : VW) : Pw.A :=
  (A.seq (A.reg (Pw.rn 2 RA.done))
   (A.seq (A.reg (RA.run RA.done))
   (A.seq (A.seq (A.reg (Pw.rn 4 RA.done))
   (A.blk (A.loop [1, 3, 7, 8, 9] (Cp_least_P0 Kv) (A.seq (A.reg (RA.run RA.done))
   (A.seq (A.cond A.leaf
   A.leaf)
   (A.seq (A.blk (A.seq (A.reg (Pw.rn 4 RA.done))
   (A.reg (Pw.rn 5 RA.done))))
   (A.reg (Pw.rn 2 RA.done))))))))
   (A.seq (A.reg (Pw.rn 6 RA.done))
   A.leaf))))
noncomputable def Cp_least_O (Kv : VW) : List Ob := (obs Try.prog Cp_least_E 23 (Cp_least_A Kv) Cp_least_C (fun _ => retQ Try.prog Try.f32.results Kv))
theorem Cp_least_e (Kv : VW) (f_0_0p : Option Addr) (f_0_0l f_0_0c : Nat) (f_0_1p : Option Addr) (f_0_1l f_0_1c : Nat) (f_0_2p : Option Addr) (f_0_2l f_0_2c : Nat) (f_0_3 f_0_4 : Int) (f_0_5p : Option Addr) (f_0_5l f_0_5c : Nat) (w : World) : Cp_least_sd ⟨f_0_0p, f_0_0l, f_0_0c⟩ ⟨f_0_1p, f_0_1l, f_0_1c⟩ ⟨f_0_2p, f_0_2l, f_0_2c⟩ f_0_3 f_0_4 ⟨f_0_5p, f_0_5l, f_0_5c⟩ (fun r0 w' => Kv (Value.int .i64 r0) w') w = W Try.prog Cp_least_E 23 (Cp_least_A Kv) Cp_least_C [] (retQ Try.prog Try.f32.results Kv) [] (startS [(Value.agg #[(Value.slice f_0_0p f_0_0l f_0_0c), (Value.slice f_0_1p f_0_1l f_0_1c), (Value.slice f_0_2p f_0_2l f_0_2c), (Value.int .i64 f_0_3), (Value.int .i64 f_0_4), (Value.slice f_0_5p f_0_5l f_0_5c)])]) w := by kernel_rfl
theorem Cp_least_e0 (Kv : VW) (N0 : List Value -> World -> Prop) (ρ : Rho) (f_1 : Addr) (sum_3 : Int) (t_7p : Option Addr) (t_7l t_7c : Nat) (t_8 t_9 : Int) (w : World) : Cp_least_b0 f_1 sum_3 ⟨t_7p, t_7l, t_7c⟩ t_8 t_9 (fun f_1' sum_3' t_7' t_8' t_9' w' => N0 [(Value.pointer (some f_1')), (Value.int .i64 sum_3'), (Value.slice t_7'.p t_7'.l t_7'.c), (Value.int .i64 t_8'), (Value.int .i64 t_9')] w') (fun r0 w' => Kv (Value.int .i64 r0) w') w = goalAt Try.prog Cp_least_E 23 (Cp_least_O Kv) 0 (N0 :: ρ) [(Value.pointer (some f_1)), (Value.int .i64 sum_3), (Value.slice t_7p t_7l t_7c), (Value.int .i64 t_8), (Value.int .i64 t_9)] w := by kernel_rfl
theorem Cp_least_q0 (Kv : VW) (ρ : Rho) (vs : List Value) (w : World) : labAt (Cp_least_O Kv) 0 ρ vs w = Cp_least_P0 Kv ρ vs w := by kernel_rfl
def Cp_least_I0 (f_10 : Addr) (t_70 : Sl) (t_80 : Int) (I : Int -> Int -> World -> Prop) (vs : List Value) (w : World) : Prop :=
  match vs with
  | [.pointer (some f_1), .int .i64 sum_3, .slice t_7p t_7l t_7c, .int .i64 t_8, .int .i64 t_9] => (f_1 = f_10 /\ ⟨t_7p, t_7l, t_7c⟩ = t_70 /\ t_8 = t_80 /\ True) /\ I sum_3 t_9 w
  | _ => False
def Cp_least_M0 (μ : Int -> Int -> World -> Nat) (vs : List Value) (w : World) : Nat :=
  match vs with
  | [.pointer (some _f_1), .int .i64 sum_3, .slice _t_7p _t_7l _t_7c, .int .i64 _t_8, .int .i64 t_9] => μ sum_3 t_9 w
  | _ => 0
theorem Cp_least_h0 (Kv : VW) : holdsAt Try.prog Cp_least_E 23 (Cp_least_O Kv) 0 := holdsAt_loop (by kernel_rfl) (fun ρ vs w h => by
  rw [Cp_least_q0] at h
  unfold Cp_least_P0 at h
  split at h
  · rename_i ρt f_1 sum_3 t_7p t_7l t_7c t_8 t_9
    obtain ⟨I, μ, h0, hr⟩ := h.out
    refine ⟨Cp_least_I0 f_1 ⟨t_7p, t_7l, t_7c⟩ t_8 I, Cp_least_M0 μ, ⟨⟨rfl, rfl, rfl, trivial⟩, h0⟩, fun vs w hI => ?_⟩
    unfold Cp_least_I0 at hI
    split at hI
    · obtain ⟨⟨h0, h1, h2, _⟩, hI⟩ := hI
      cases h0; cases h1; cases h2
      rw [← Cp_least_e0]
      exact hr _ _ _ hI
    · exact hI.elim
  · exact h.elim)
theorem Cp_least_n (Kv : VW) : obAt (Cp_least_O Kv) 1 = none := by kernel_rfl
theorem Cp_least_h (Kv : VW) : ∀ k, holdsAt Try.prog Cp_least_E 23 (Cp_least_O Kv) k := fun k => match k with
  | 0 => Cp_least_h0 Kv
  | _k + 1 => holdsAt_ge (Cp_least_n Kv) (Nat.le_add_left _ _)
theorem Cp_least_ok : Sound Try.prog 32 Cp_least_S := ⟨Try.call32, fun vs w Kv h => by
  unfold Cp_least_S at h
  split at h
  · have h := h.out
    rw [Cp_least_e] at h
    exact calls_sound (Γ := Cp_least_E) progMixed ⟨.inl Cp_taken_ok, .inl Cp_offs_ok, trivial⟩ Try.func32 (code := Cp_least_C) (by kernel_rfl) (Cp_least_A Kv) Kv (holds_all (Cp_least_h Kv)) (Nat.le_of_ble_eq_true (by kernel_rfl)) h
  · exact h.elim⟩
/-! Cp_net -/
def Cp_net_sd (f_0_0 f_0_1 f_0_2 : Sl) (f_0_3 f_0_4 : Int) (f_0_5 : Sl) (c_1_0 c_1_1 : Int) (c_1_2 c_1_3 : Int) (K : Int -> World -> Prop) (w : World) : Prop :=
  let w1 := w.alloc (Obj.cells #[(Value.slice f_0_0.p f_0_0.l f_0_0.c), (Value.slice f_0_1.p f_0_1.l f_0_1.c), (Value.slice f_0_2.p f_0_2.l f_0_2.c), (Value.int .i64 f_0_3), (Value.int .i64 f_0_4), (Value.slice f_0_5.p f_0_5.l f_0_5.c)] 65)
  let w2 := w1.alloc (Obj.cells #[(Value.int .i64 c_1_0), (Value.int .i64 c_1_1), (Value.int .i64 c_1_2), (Value.int .i64 c_1_3)] 56)
  ∃ x3 : Int, w2.cell? (Addr.mk w1.heap.size 3 none) = some (Value.int .i64 x3) /\ ∃ x4 : Int, w2.cell? (Addr.mk w.heap.size 4 none) = some (Value.int .i64 x4) /\ inR .i64 (x4 + (1 : Int)) /\ inR .i64 (x3 * (x4 + (1 : Int))) /\ ∃ x5 : Int, w2.cell? (Addr.mk w1.heap.size 2 none) = some (Value.int .i64 x5) /\ inR .i64 ((x3 * (x4 + (1 : Int))) - x5) /\ K ((x3 * (x4 + (1 : Int))) - x5) w2
structure Cp_net_sh (f_0_0 f_0_1 f_0_2 : Sl) (f_0_3 f_0_4 : Int) (f_0_5 : Sl) (c_1_0 c_1_1 : Int) (c_1_2 c_1_3 : Int) (K : Int -> World -> Prop) (w : World) : Prop where
  out : Cp_net_sd f_0_0 f_0_1 f_0_2 f_0_3 f_0_4 f_0_5 c_1_0 c_1_1 c_1_2 c_1_3 K w
noncomputable def Cp_net_S : Pw.Spec := fun vs w Kv =>
  match vs with
  | [.agg ⟨[.slice f_0_0p f_0_0l f_0_0c, .slice f_0_1p f_0_1l f_0_1c, .slice f_0_2p f_0_2l f_0_2c, .int .i64 f_0_3, .int .i64 f_0_4, .slice f_0_5p f_0_5l f_0_5c]⟩, .agg ⟨[.int .i64 c_1_0, .int .i64 c_1_1, .int .i64 c_1_2, .int .i64 c_1_3]⟩] => Cp_net_sh ⟨f_0_0p, f_0_0l, f_0_0c⟩ ⟨f_0_1p, f_0_1l, f_0_1c⟩ ⟨f_0_2p, f_0_2l, f_0_2c⟩ f_0_3 f_0_4 ⟨f_0_5p, f_0_5l, f_0_5c⟩ c_1_0 c_1_1 c_1_2 c_1_3 (fun r0 w' => Kv (Value.int .i64 r0) w') w
  | _ => False
noncomputable def Cp_net_E : Pw.Env := []
noncomputable def Cp_net_C : Code := (Try.f75.body).getD .skip
noncomputable def Cp_net_A (_Kv : VW) : Pw.A :=
  (A.seq (A.reg (Pw.rn 3 RA.done))
   (A.seq (A.reg (Pw.rn 11 RA.done))
   A.leaf))
noncomputable def Cp_net_O (Kv : VW) : List Ob := (obs Try.prog Cp_net_E 15 (Cp_net_A Kv) Cp_net_C (fun _ => retQ Try.prog Try.f75.results Kv))
theorem Cp_net_e (Kv : VW) (f_0_0p : Option Addr) (f_0_0l f_0_0c : Nat) (f_0_1p : Option Addr) (f_0_1l f_0_1c : Nat) (f_0_2p : Option Addr) (f_0_2l f_0_2c : Nat) (f_0_3 f_0_4 : Int) (f_0_5p : Option Addr) (f_0_5l f_0_5c : Nat) (c_1_0 c_1_1 : Int) (c_1_2 c_1_3 : Int) (w : World) : Cp_net_sd ⟨f_0_0p, f_0_0l, f_0_0c⟩ ⟨f_0_1p, f_0_1l, f_0_1c⟩ ⟨f_0_2p, f_0_2l, f_0_2c⟩ f_0_3 f_0_4 ⟨f_0_5p, f_0_5l, f_0_5c⟩ c_1_0 c_1_1 c_1_2 c_1_3 (fun r0 w' => Kv (Value.int .i64 r0) w') w = W Try.prog Cp_net_E 15 (Cp_net_A Kv) Cp_net_C [] (retQ Try.prog Try.f75.results Kv) [] (startS [(Value.agg #[(Value.slice f_0_0p f_0_0l f_0_0c), (Value.slice f_0_1p f_0_1l f_0_1c), (Value.slice f_0_2p f_0_2l f_0_2c), (Value.int .i64 f_0_3), (Value.int .i64 f_0_4), (Value.slice f_0_5p f_0_5l f_0_5c)]), (Value.agg #[(Value.int .i64 c_1_0), (Value.int .i64 c_1_1), (Value.int .i64 c_1_2), (Value.int .i64 c_1_3)])]) w := by kernel_rfl
theorem Cp_net_n (Kv : VW) : obAt (Cp_net_O Kv) 0 = none := by kernel_rfl
theorem Cp_net_h (Kv : VW) : ∀ k, holdsAt Try.prog Cp_net_E 15 (Cp_net_O Kv) k := fun _ => holdsAt_ge (Cp_net_n Kv) (Nat.zero_le _)
theorem Cp_net_ok : Sound Try.prog 75 Cp_net_S := ⟨Try.call75, fun vs w Kv h => by
  unfold Cp_net_S at h
  split at h
  · have h := h.out
    rw [Cp_net_e] at h
    exact calls_sound (Γ := Cp_net_E) progMixed trivial Try.func75 (code := Cp_net_C) (by kernel_rfl) (Cp_net_A Kv) Kv (holds_all (Cp_net_h Kv)) (Nat.le_of_ble_eq_true (by kernel_rfl)) h
  · exact h.elim⟩
/-! Cp_duals -/
def Cp_duals_k1d (f_1 : Addr) (out_3 : Sl) (d_7 : Addr) (ok_8 : Bool) (t_13 : Sl) (t_14 t_15 : Int) (N0 : Addr -> Sl -> Sl -> Int -> Int -> World -> Prop) (_K : Sl -> World -> Prop) (w : World) : Prop :=
  cnd ok_8
    (∃ x54 : Int, w.cell? d_7 = some (Value.int .i64 x54) /\ cnd (decide (x54 > (0 : Int)))
    (∃ x55 : Int, w.cell? d_7 = some (Value.int .i64 x55) /\ ∃ x56 : Int, w.cell? (d_7.add 1) = some (Value.int .i64 x56) /\ let w57 := w.alloc (Obj.cells #[(Value.int .i64 x55), (Value.int .i64 x56)] 82)
  apS 2 16 [(Value.int .i64 0), (Value.int .i64 0)] 82 out_3 (Sl.mk (some (Addr.mk w.heap.size 0 none)) 1 1) w57 fun s58 w59 => inR .i64 (t_15 + (1 : Int)) /\ N0 f_1 s58 t_13 t_14 (t_15 + (1 : Int)) w59)
    (inR .i64 (t_15 + (1 : Int)) /\ N0 f_1 out_3 t_13 t_14 (t_15 + (1 : Int)) w))
    (inR .i64 (t_15 + (1 : Int)) /\ N0 f_1 out_3 t_13 t_14 (t_15 + (1 : Int)) w)
structure Cp_duals_k1 (f_1 : Addr) (out_3 : Sl) (d_7 : Addr) (ok_8 : Bool) (t_13 : Sl) (t_14 t_15 : Int) (N0 : Addr -> Sl -> Sl -> Int -> Int -> World -> Prop) (K : Sl -> World -> Prop) (w : World) : Prop where
  out : Cp_duals_k1d f_1 out_3 d_7 ok_8 t_13 t_14 t_15 N0 K w
def Cp_duals_b0 (f_1 : Addr) (out_3 t_13 : Sl) (t_14 t_15 : Int) (N0 : Addr -> Sl -> Sl -> Int -> Int -> World -> Prop) (K : Sl -> World -> Prop) (w : World) : Prop :=
  cnd (decide (t_15 < t_14))
    (nz t_13.p fun a6 => (0 <= t_15 /\ t_15 < (t_13.l : Nat)) /\ ∃ x7 : Int, w.cell? (a6.add (t_15.toNat * 4)) = some (Value.int .i64 x7) /\ ∃ x8 : Int, w.cell? ((a6.add (t_15.toNat * 4)).add 1) = some (Value.int .i64 x8) /\ ∃ x9 : Int, w.cell? ((a6.add (t_15.toNat * 4)).add 2) = some (Value.int .i64 x9) /\ ∃ x10 : Int, w.cell? ((a6.add (t_15.toNat * 4)).add 3) = some (Value.int .i64 x10) /\ let w11 := w.alloc (Obj.cells #[(Value.int .i64 0), (Value.int .i64 0), (Value.int .i64 0), (Value.int .i64 0)] 56)
  stN w11 (Addr.mk w.heap.size 0 none) [(Value.int .i64 x7), (Value.int .i64 x8), (Value.int .i64 x9), (Value.int .i64 x10)] fun w12 => ∃ x13 : Sl, w12.cell? f_1 = some (Value.slice x13.p x13.l x13.c) /\ ∃ x14 : Int, w12.cell? (Addr.mk w.heap.size 0 none) = some (Value.int .i64 x14) /\ slices_Index_sh x13 x14 (fun r16 w15 => ∃ x17 : Sl, w15.cell? (f_1.add 5) = some (Value.slice x17.p x17.l x17.c) /\ cnd (decide (r16 >= (x17.l : Int)))
    (∃ x18 : Int, w15.cell? (Addr.mk w.heap.size 2 none) = some (Value.int .i64 x18) /\ cnd (decide (x18 > (0 : Int)))
    (let w19 := w15.drew
  ∃ S20 : World -> Prop, S20 w19 /\ ∃ x21 : Sl, (∀ w' : World, S20 w' -> w'.cell? f_1 = some (Value.slice x21.p x21.l x21.c)) /\ ∃ x22 : Sl, (∀ w' : World, S20 w' -> w'.cell? (f_1.add 1) = some (Value.slice x22.p x22.l x22.c)) /\ ∃ x23 : Sl, (∀ w' : World, S20 w' -> w'.cell? (f_1.add 2) = some (Value.slice x23.p x23.l x23.c)) /\ ∃ x24 : Int, (∀ w' : World, S20 w' -> w'.cell? (f_1.add 3) = some (Value.int .i64 x24)) /\ ∃ x25 : Int, (∀ w' : World, S20 w' -> w'.cell? (f_1.add 4) = some (Value.int .i64 x25)) /\ ∃ x26 : Sl, (∀ w' : World, S20 w' -> w'.cell? (f_1.add 5) = some (Value.slice x26.p x26.l x26.c)) /\ ∃ x27 : Int, (∀ w' : World, S20 w' -> w'.cell? (Addr.mk w.heap.size 0 none) = some (Value.int .i64 x27)) /\ ∃ x28 : Int, (∀ w' : World, S20 w' -> w'.cell? (Addr.mk w.heap.size 1 none) = some (Value.int .i64 x28)) /\ ∃ x29 : Int, (∀ w' : World, S20 w' -> w'.cell? (Addr.mk w.heap.size 2 none) = some (Value.int .i64 x29)) /\ ∃ x30 : Int, (∀ w' : World, S20 w' -> w'.cell? (Addr.mk w.heap.size 3 none) = some (Value.int .i64 x30)) /\ ∃ x31 : Int, (∀ w' : World, S20 w' -> w'.cell? (Addr.mk w.heap.size 2 none) = some (Value.int .i64 x31)) /\ (Cp_net_sh x21 x22 x23 x24 x25 x26 x27 x28 x29 x30 (fun r33 w32 => S20 w32 /\ (ratio_Make_sh r33 x31 (fun r35_0 r35_1 r36 w34 => S20 w34 /\ let w37 := w34.alloc (Obj.cells #[(Value.int .i64 0), (Value.int .i64 0)] 82)
  S20 w37 /\ wrOk w37 (Addr.mk w34.heap.size 0 none) /\ 
  (let w38 := w37.setCell (Addr.mk w34.heap.size 0 none) (Value.int .i64 r35_0)
  wrOk w38 (Addr.mk w34.heap.size 1 none) /\ 
  (let w39 := w38.setCell (Addr.mk w34.heap.size 1 none) (Value.int .i64 r35_1)
  Cp_duals_k1 f_1 out_3 (Addr.mk w34.heap.size 0 none) r36 t_13 t_14 t_15 N0 K w39))) w32)
    /\ (let w40 := w32.alloc (Obj.cells #[(Value.int .i64 0), (Value.int .i64 0)] 82)
  S20 w40 /\ ratio_Make_sh r33 x31 (fun r42_0 r42_1 r43 w41 => S20 w41 /\ wrOk w41 (Addr.mk w32.heap.size 0 none) /\ 
  (let w44 := w41.setCell (Addr.mk w32.heap.size 0 none) (Value.int .i64 r42_0)
  wrOk w44 (Addr.mk w32.heap.size 1 none) /\ 
  (let w45 := w44.setCell (Addr.mk w32.heap.size 1 none) (Value.int .i64 r42_1)
  Cp_duals_k1 f_1 out_3 (Addr.mk w32.heap.size 0 none) r43 t_13 t_14 t_15 N0 K w45))) w40)) w19)
    /\ (let w46 := w19.alloc (Obj.cells #[(Value.int .i64 0), (Value.int .i64 0)] 82)
  S20 w46 /\ Cp_net_sh x21 x22 x23 x24 x25 x26 x27 x28 x29 x30 (fun r48 w47 => S20 w47 /\ ratio_Make_sh r48 x31 (fun r50_0 r50_1 r51 w49 => S20 w49 /\ wrOk w49 (Addr.mk w19.heap.size 0 none) /\ 
  (let w52 := w49.setCell (Addr.mk w19.heap.size 0 none) (Value.int .i64 r50_0)
  wrOk w52 (Addr.mk w19.heap.size 1 none) /\ 
  (let w53 := w52.setCell (Addr.mk w19.heap.size 1 none) (Value.int .i64 r50_1)
  Cp_duals_k1 f_1 out_3 (Addr.mk w19.heap.size 0 none) r51 t_13 t_14 t_15 N0 K w53))) w47) w46))
    (inR .i64 (t_15 + (1 : Int)) /\ N0 f_1 out_3 t_13 t_14 (t_15 + (1 : Int)) w15))
    (inR .i64 (t_15 + (1 : Int)) /\ N0 f_1 out_3 t_13 t_14 (t_15 + (1 : Int)) w15)) w12)
    (K out_3 w)
def Cp_duals_l0d (f_1 : Addr) (out_3 t_13 : Sl) (t_14 t_15 : Int) (K : Sl -> World -> Prop) (w : World) : Prop :=
  ∃ (I : Sl -> Int -> World -> Prop) (μ : Sl -> Int -> World -> Nat), I out_3 t_15 w /\ ∀ (out_31 : Sl) (t_151 : Int) (w1 : World), I out_31 t_151 w1 ->
    Cp_duals_b0 f_1 out_31 t_13 t_14 t_151 (fun f_1' out_3' t_13' t_14' t_15' w' => ((f_1' = f_1 /\ t_13' = t_13 /\ t_14' = t_14 /\ True) /\ I out_3' t_15' w') /\ μ out_3' t_15' w' < μ out_31 t_151 w1) K w1
structure Cp_duals_l0 (f_1 : Addr) (out_3 t_13 : Sl) (t_14 t_15 : Int) (K : Sl -> World -> Prop) (w : World) : Prop where
  out : Cp_duals_l0d f_1 out_3 t_13 t_14 t_15 K w
def Cp_duals_sd (f_0_0 f_0_1 f_0_2 : Sl) (f_0_3 f_0_4 : Int) (f_0_5 : Sl) (K : Sl -> World -> Prop) (w : World) : Prop :=
  let w1 := w.alloc (Obj.cells #[(Value.slice f_0_0.p f_0_0.l f_0_0.c), (Value.slice f_0_1.p f_0_1.l f_0_1.c), (Value.slice f_0_2.p f_0_2.l f_0_2.c), (Value.int .i64 f_0_3), (Value.int .i64 f_0_4), (Value.slice f_0_5.p f_0_5.l f_0_5.c)] 65)
  ratio_Of_sh (0 : Int) (fun r3_0 r3_1 w2 => let w4 := w2.alloc (Obj.cells #[(Value.int .i64 r3_0), (Value.int .i64 r3_1)] 82)
  ∃ x5 : Sl, w4.cell? (Addr.mk w.heap.size 1 none) = some (Value.slice x5.p x5.l x5.c) /\ Cp_duals_l0 (Addr.mk w.heap.size 0 none) (Sl.mk (some (Addr.mk w2.heap.size 0 none)) 1 1) x5 (x5.l : Int) (0 : Int) K w4) w1
structure Cp_duals_sh (f_0_0 f_0_1 f_0_2 : Sl) (f_0_3 f_0_4 : Int) (f_0_5 : Sl) (K : Sl -> World -> Prop) (w : World) : Prop where
  out : Cp_duals_sd f_0_0 f_0_1 f_0_2 f_0_3 f_0_4 f_0_5 K w
def Cp_duals_P0 (Kv : VW) (ρ : Rho) (vs : List Value) (w : World) : Prop :=
  match ρ, vs with
  | _, [.pointer (some f_1), .slice out_3p out_3l out_3c, .slice t_13p t_13l t_13c, .int .i64 t_14, .int .i64 t_15] => Cp_duals_l0 f_1 ⟨out_3p, out_3l, out_3c⟩ ⟨t_13p, t_13l, t_13c⟩ t_14 t_15 (fun r0 w' => Kv (Value.slice r0.p r0.l r0.c) w') w
  | _, _ => False
def Cp_duals_P1 (Kv : VW) (ρ : Rho) (vs : List Value) (w : World) : Prop :=
  match ρ, vs with
  | N0 :: _, [.pointer (some f_1), .slice out_3p out_3l out_3c, .pointer (some d_7), .bool ok_8, .slice t_13p t_13l t_13c, .int .i64 t_14, .int .i64 t_15] => Cp_duals_k1 f_1 ⟨out_3p, out_3l, out_3c⟩ d_7 ok_8 ⟨t_13p, t_13l, t_13c⟩ t_14 t_15 (fun f_1' out_3' t_13' t_14' t_15' w' => N0 [(Value.pointer (some f_1')), (Value.slice out_3'.p out_3'.l out_3'.c), (Value.slice t_13'.p t_13'.l t_13'.c), (Value.int .i64 t_14'), (Value.int .i64 t_15')] w') (fun r0 w' => Kv (Value.slice r0.p r0.l r0.c) w') w
  | _, _ => False
noncomputable def Cp_duals_S : Pw.Spec := fun vs w Kv =>
  match vs with
  | [.agg ⟨[.slice f_0_0p f_0_0l f_0_0c, .slice f_0_1p f_0_1l f_0_1c, .slice f_0_2p f_0_2l f_0_2c, .int .i64 f_0_3, .int .i64 f_0_4, .slice f_0_5p f_0_5l f_0_5c]⟩] => Cp_duals_sh ⟨f_0_0p, f_0_0l, f_0_0c⟩ ⟨f_0_1p, f_0_1l, f_0_1c⟩ ⟨f_0_2p, f_0_2l, f_0_2c⟩ f_0_3 f_0_4 ⟨f_0_5p, f_0_5l, f_0_5c⟩ (fun r0 w' => Kv (Value.slice r0.p r0.l r0.c) w') w
  | _ => False
noncomputable def Cp_duals_E : Pw.Env := [(44, ratio_Of_S), (55, slices_Index_S), (74, ratio_Make_S), (75, Cp_net_S)]
noncomputable def Cp_duals_C : Code := (Try.f65.body).getD .skip
noncomputable def Cp_duals_A (Kv : VW) : Pw.A :=
  (A.seq (A.reg (Pw.rn 2 RA.done))
   (A.seq (A.reg (Pw.rn 3 RA.done))
   (A.seq (A.seq (A.reg (Pw.rn 5 RA.done))
   (A.blk (A.loop [1, 3, 13, 14, 15] (Cp_duals_P0 Kv) (A.seq (A.reg (RA.run RA.done))
   (A.seq (A.cond A.leaf
   A.leaf)
   (A.seq (A.blk (A.seq (A.reg (Pw.rn 4 RA.done))
   (A.seq (A.reg (Pw.rn 7 RA.done))
   (A.seq (A.reg (Pw.rn 6 (RA.spl 30 (Pw.rn 4 RA.done) (Pw.sk 3 (RA.run RA.done)))))
   (A.cond (A.seq (A.drw (DA.pur 0 (DA.pur 1 (DA.pur 3 (DA.pur 4 (DA.two 2 (DA.two 5 (DA.pur 6 (DA.pur 7 (DA.pur 8 (DA.eff 9 (DA.eff 10 (DA.pur 11 DA.done)))))) 9 (DA.eff 5 (DA.pur 6 (DA.pur 7 (DA.pur 8 (DA.eff 10 (DA.pur 11 DA.done))))))) 9 (DA.eff 2 (DA.eff 5 (DA.pur 6 (DA.pur 7 (DA.pur 8 (DA.eff 10 (DA.pur 11 DA.done)))))))))))))
   (A.cut [1, 3, 7, 8, 13, 14, 15] (Cp_duals_P1 Kv) (A.seq (A.reg (Pw.rn 2 (RA.spl 45 (Pw.rn 4 RA.done) (Pw.sk 3 (RA.run RA.done)))))
   (A.cond (A.reg (Pw.rn 5 RA.done))
   A.leaf))))
   A.leaf)))))
   (A.reg (Pw.rn 2 RA.done))))))))
   (A.seq (A.reg (Pw.rn 2 RA.done))
   A.leaf))))
noncomputable def Cp_duals_O (Kv : VW) : List Ob := (obs Try.prog Cp_duals_E 56 (Cp_duals_A Kv) Cp_duals_C (fun _ => retQ Try.prog Try.f65.results Kv))
theorem Cp_duals_e (Kv : VW) (f_0_0p : Option Addr) (f_0_0l f_0_0c : Nat) (f_0_1p : Option Addr) (f_0_1l f_0_1c : Nat) (f_0_2p : Option Addr) (f_0_2l f_0_2c : Nat) (f_0_3 f_0_4 : Int) (f_0_5p : Option Addr) (f_0_5l f_0_5c : Nat) (w : World) : Cp_duals_sd ⟨f_0_0p, f_0_0l, f_0_0c⟩ ⟨f_0_1p, f_0_1l, f_0_1c⟩ ⟨f_0_2p, f_0_2l, f_0_2c⟩ f_0_3 f_0_4 ⟨f_0_5p, f_0_5l, f_0_5c⟩ (fun r0 w' => Kv (Value.slice r0.p r0.l r0.c) w') w = W Try.prog Cp_duals_E 56 (Cp_duals_A Kv) Cp_duals_C [] (retQ Try.prog Try.f65.results Kv) [] (startS [(Value.agg #[(Value.slice f_0_0p f_0_0l f_0_0c), (Value.slice f_0_1p f_0_1l f_0_1c), (Value.slice f_0_2p f_0_2l f_0_2c), (Value.int .i64 f_0_3), (Value.int .i64 f_0_4), (Value.slice f_0_5p f_0_5l f_0_5c)])]) w := by kernel_rfl
theorem Cp_duals_e0 (Kv : VW) (N0 : List Value -> World -> Prop) (ρ : Rho) (f_1 : Addr) (out_3p : Option Addr) (out_3l out_3c : Nat) (t_13p : Option Addr) (t_13l t_13c : Nat) (t_14 t_15 : Int) (w : World) : Cp_duals_b0 f_1 ⟨out_3p, out_3l, out_3c⟩ ⟨t_13p, t_13l, t_13c⟩ t_14 t_15 (fun f_1' out_3' t_13' t_14' t_15' w' => N0 [(Value.pointer (some f_1')), (Value.slice out_3'.p out_3'.l out_3'.c), (Value.slice t_13'.p t_13'.l t_13'.c), (Value.int .i64 t_14'), (Value.int .i64 t_15')] w') (fun r0 w' => Kv (Value.slice r0.p r0.l r0.c) w') w = goalAt Try.prog Cp_duals_E 56 (Cp_duals_O Kv) 0 (N0 :: ρ) [(Value.pointer (some f_1)), (Value.slice out_3p out_3l out_3c), (Value.slice t_13p t_13l t_13c), (Value.int .i64 t_14), (Value.int .i64 t_15)] w := by kernel_rfl
theorem Cp_duals_q0 (Kv : VW) (ρ : Rho) (vs : List Value) (w : World) : labAt (Cp_duals_O Kv) 0 ρ vs w = Cp_duals_P0 Kv ρ vs w := by kernel_rfl
def Cp_duals_I0 (f_10 : Addr) (t_130 : Sl) (t_140 : Int) (I : Sl -> Int -> World -> Prop) (vs : List Value) (w : World) : Prop :=
  match vs with
  | [.pointer (some f_1), .slice out_3p out_3l out_3c, .slice t_13p t_13l t_13c, .int .i64 t_14, .int .i64 t_15] => (f_1 = f_10 /\ ⟨t_13p, t_13l, t_13c⟩ = t_130 /\ t_14 = t_140 /\ True) /\ I ⟨out_3p, out_3l, out_3c⟩ t_15 w
  | _ => False
def Cp_duals_M0 (μ : Sl -> Int -> World -> Nat) (vs : List Value) (w : World) : Nat :=
  match vs with
  | [.pointer (some _f_1), .slice out_3p out_3l out_3c, .slice _t_13p _t_13l _t_13c, .int .i64 _t_14, .int .i64 t_15] => μ ⟨out_3p, out_3l, out_3c⟩ t_15 w
  | _ => 0
theorem Cp_duals_h0 (Kv : VW) : holdsAt Try.prog Cp_duals_E 56 (Cp_duals_O Kv) 0 := holdsAt_loop (by kernel_rfl) (fun ρ vs w h => by
  rw [Cp_duals_q0] at h
  unfold Cp_duals_P0 at h
  split at h
  · rename_i ρt f_1 out_3p out_3l out_3c t_13p t_13l t_13c t_14 t_15
    obtain ⟨I, μ, h0, hr⟩ := h.out
    refine ⟨Cp_duals_I0 f_1 ⟨t_13p, t_13l, t_13c⟩ t_14 I, Cp_duals_M0 μ, ⟨⟨rfl, rfl, rfl, trivial⟩, h0⟩, fun vs w hI => ?_⟩
    unfold Cp_duals_I0 at hI
    split at hI
    · obtain ⟨⟨h0, h1, h2, _⟩, hI⟩ := hI
      cases h0; cases h1; cases h2
      rw [← Cp_duals_e0]
      exact hr _ _ _ hI
    · exact hI.elim
  · exact h.elim)
theorem Cp_duals_e1 (Kv : VW) (N0 : List Value -> World -> Prop) (ρ : Rho) (f_1 : Addr) (out_3p : Option Addr) (out_3l out_3c : Nat) (d_7 : Addr) (ok_8 : Bool) (t_13p : Option Addr) (t_13l t_13c : Nat) (t_14 t_15 : Int) (w : World) : Cp_duals_k1d f_1 ⟨out_3p, out_3l, out_3c⟩ d_7 ok_8 ⟨t_13p, t_13l, t_13c⟩ t_14 t_15 (fun f_1' out_3' t_13' t_14' t_15' w' => N0 [(Value.pointer (some f_1')), (Value.slice out_3'.p out_3'.l out_3'.c), (Value.slice t_13'.p t_13'.l t_13'.c), (Value.int .i64 t_14'), (Value.int .i64 t_15')] w') (fun r0 w' => Kv (Value.slice r0.p r0.l r0.c) w') w = goalAt Try.prog Cp_duals_E 56 (Cp_duals_O Kv) 1 (N0 :: ρ) [(Value.pointer (some f_1)), (Value.slice out_3p out_3l out_3c), (Value.pointer (some d_7)), (Value.bool ok_8), (Value.slice t_13p t_13l t_13c), (Value.int .i64 t_14), (Value.int .i64 t_15)] w := by kernel_rfl
theorem Cp_duals_q1 (Kv : VW) (ρ : Rho) (vs : List Value) (w : World) : labAt (Cp_duals_O Kv) 1 ρ vs w = Cp_duals_P1 Kv ρ vs w := by kernel_rfl
theorem Cp_duals_h1 (Kv : VW) : holdsAt Try.prog Cp_duals_E 56 (Cp_duals_O Kv) 1 := holdsAt_cut (.inl (by kernel_rfl)) (fun ρ vs w h => by
  rw [Cp_duals_q1] at h
  unfold Cp_duals_P1 at h
  split at h
  · rw [← Cp_duals_e1]; exact h.out
  · exact h.elim)
theorem Cp_duals_n (Kv : VW) : obAt (Cp_duals_O Kv) 2 = none := by kernel_rfl
theorem Cp_duals_h (Kv : VW) : ∀ k, holdsAt Try.prog Cp_duals_E 56 (Cp_duals_O Kv) k := fun k => match k with
  | 0 => Cp_duals_h0 Kv
  | 1 => Cp_duals_h1 Kv
  | _k + 2 => holdsAt_ge (Cp_duals_n Kv) (Nat.le_add_left _ _)
theorem Cp_duals_ok : Sound Try.prog 65 Cp_duals_S := ⟨Try.call65, fun vs w Kv h => by
  unfold Cp_duals_S at h
  split at h
  · have h := h.out
    rw [Cp_duals_e] at h
    exact calls_sound (Γ := Cp_duals_E) progMixed ⟨.inl ratio_Of_ok, .inl slices_Index_ok, .inl ratio_Make_ok, .inl Cp_net_ok, trivial⟩ Try.func65 (code := Cp_duals_C) (by kernel_rfl) (Cp_duals_A Kv) Kv (holds_all (Cp_duals_h Kv)) (Nat.le_of_ble_eq_true (by kernel_rfl)) h
  · exact h.elim⟩
/-! Cp_bound_1 -/
def Cp_bound_1_k0d (t_7 y_10 : Addr) (K : Int -> Int -> World -> Prop) (w : World) : Prop :=
  ∃ x29 : Int, w.cell? y_10 = some (Value.int .i64 x29) /\ ∃ x30 : Int, w.cell? (y_10.add 1) = some (Value.int .i64 x30) /\ wrOk w t_7 /\ 
  (let w31 := w.setCell t_7 (Value.int .i64 x29)
  wrOk w31 (t_7.add 1) /\ 
  (let w32 := w31.setCell (t_7.add 1) (Value.int .i64 x30)
  ∃ x33 : Int, w32.cell? t_7 = some (Value.int .i64 x33) /\ ∃ x34 : Int, w32.cell? (t_7.add 1) = some (Value.int .i64 x34) /\ K x33 x34 w32))
structure Cp_bound_1_k0 (t_7 y_10 : Addr) (K : Int -> Int -> World -> Prop) (w : World) : Prop where
  out : Cp_bound_1_k0d t_7 y_10 K w
def Cp_bound_1_sd (sum_0_0 sum_0_1 : Int) (a_1_0 a_1_1 : Int) (b_2_0 b_2_1 : Int) (t_3 : Addr) (K : Int -> Int -> World -> Prop) (w : World) : Prop :=
  let w1 := w.alloc (Obj.cells #[(Value.int .i64 sum_0_0), (Value.int .i64 sum_0_1)] 82)
  let w2 := w1.alloc (Obj.cells #[(Value.int .i64 a_1_0), (Value.int .i64 a_1_1)] 82)
  let w3 := w2.alloc (Obj.cells #[(Value.int .i64 b_2_0), (Value.int .i64 b_2_1)] 82)
  let w4 := w3.alloc (Obj.cells #[(Value.int .i64 0), (Value.int .i64 0)] 82)
  ∃ x5 : Int, w4.cell? (Addr.mk w1.heap.size 0 none) = some (Value.int .i64 x5) /\ ∃ x6 : Int, w4.cell? (Addr.mk w1.heap.size 1 none) = some (Value.int .i64 x6) /\ ∃ x7 : Int, w4.cell? (Addr.mk w2.heap.size 0 none) = some (Value.int .i64 x7) /\ ∃ x8 : Int, w4.cell? (Addr.mk w2.heap.size 1 none) = some (Value.int .i64 x8) /\ ratio_Mul_sh x5 x6 x7 x8 (fun r10_0 r10_1 r11 w9 => let w12 := w9.alloc (Obj.cells #[(Value.int .i64 0), (Value.int .i64 0)] 82)
  wrOk w12 (Addr.mk w9.heap.size 0 none) /\ 
  (let w13 := w12.setCell (Addr.mk w9.heap.size 0 none) (Value.int .i64 r10_0)
  wrOk w13 (Addr.mk w9.heap.size 1 none) /\ 
  (let w14 := w13.setCell (Addr.mk w9.heap.size 1 none) (Value.int .i64 r10_1)
  ∃ x15 : Int, w14.cell? (Addr.mk w.heap.size 0 none) = some (Value.int .i64 x15) /\ ∃ x16 : Int, w14.cell? (Addr.mk w.heap.size 1 none) = some (Value.int .i64 x16) /\ ∃ x17 : Int, w14.cell? (Addr.mk w9.heap.size 0 none) = some (Value.int .i64 x17) /\ ∃ x18 : Int, w14.cell? (Addr.mk w9.heap.size 1 none) = some (Value.int .i64 x18) /\ ratio_Add_sh x15 x16 x17 x18 (fun r20_0 r20_1 r21 w19 => let w22 := w19.alloc (Obj.cells #[(Value.int .i64 0), (Value.int .i64 0)] 82)
  wrOk w22 (Addr.mk w19.heap.size 0 none) /\ 
  (let w23 := w22.setCell (Addr.mk w19.heap.size 0 none) (Value.int .i64 r20_0)
  wrOk w23 (Addr.mk w19.heap.size 1 none) /\ 
  (let w24 := w23.setCell (Addr.mk w19.heap.size 1 none) (Value.int .i64 r20_1)
  ∃ x25 : Bool, w24.cell? t_3 = some (Value.bool x25) /\ cnd x25
    (cnd r11
    (wrOk w24 t_3 /\ 
  (let w26 := w24.setCell t_3 (Value.bool r21)
  Cp_bound_1_k0 (Addr.mk w3.heap.size 0 none) (Addr.mk w19.heap.size 0 none) K w26))
    (wrOk w24 t_3 /\ 
  (let w27 := w24.setCell t_3 (Value.bool false)
  Cp_bound_1_k0 (Addr.mk w3.heap.size 0 none) (Addr.mk w19.heap.size 0 none) K w27)))
    (wrOk w24 t_3 /\ 
  (let w28 := w24.setCell t_3 (Value.bool false)
  Cp_bound_1_k0 (Addr.mk w3.heap.size 0 none) (Addr.mk w19.heap.size 0 none) K w28))))) w14))) w4
structure Cp_bound_1_sh (sum_0_0 sum_0_1 : Int) (a_1_0 a_1_1 : Int) (b_2_0 b_2_1 : Int) (t_3 : Addr) (K : Int -> Int -> World -> Prop) (w : World) : Prop where
  out : Cp_bound_1_sd sum_0_0 sum_0_1 a_1_0 a_1_1 b_2_0 b_2_1 t_3 K w
def Cp_bound_1_P0 (Kv : VW) (ρ : Rho) (vs : List Value) (w : World) : Prop :=
  match ρ, vs with
  | _, [.pointer (some t_7), .pointer (some y_10)] => Cp_bound_1_k0 t_7 y_10 (fun r0_0 r0_1 w' => Kv (Value.agg #[(Value.int .i64 r0_0), (Value.int .i64 r0_1)]) w') w
  | _, _ => False
noncomputable def Cp_bound_1_S : Pw.Spec := fun vs w Kv =>
  match vs with
  | [.agg ⟨[.int .i64 sum_0_0, .int .i64 sum_0_1]⟩, .agg ⟨[.int .i64 a_1_0, .int .i64 a_1_1]⟩, .agg ⟨[.int .i64 b_2_0, .int .i64 b_2_1]⟩, .pointer (some t_3)] => Cp_bound_1_sh sum_0_0 sum_0_1 a_1_0 a_1_1 b_2_0 b_2_1 t_3 (fun r0_0 r0_1 w' => Kv (Value.agg #[(Value.int .i64 r0_0), (Value.int .i64 r0_1)]) w') w
  | _ => False
noncomputable def Cp_bound_1_E : Pw.Env := [(77, ratio_Mul_S), (78, ratio_Add_S)]
noncomputable def Cp_bound_1_C : Code := (Try.f76.body).getD .skip
noncomputable def Cp_bound_1_A (Kv : VW) : Pw.A :=
  (A.seq (A.reg (Pw.rn 4 RA.done))
   (A.seq (A.reg (Pw.rn 9 RA.done))
   (A.seq (A.reg (Pw.rn 9 RA.done))
   (A.seq (A.reg (Pw.rn 2 (RA.spl 25 (Pw.rn 3 (RA.spl 28 (Pw.rn 3 RA.done) (RA.skp (Pw.rn 2 RA.done)))) (RA.skp (Pw.rn 2 (RA.skp (Pw.rn 2 RA.done)))))))
   (A.cut [7, 10] (Cp_bound_1_P0 Kv) (A.seq (A.reg (Pw.rn 2 RA.done))
   A.leaf))))))
noncomputable def Cp_bound_1_O (Kv : VW) : List Ob := (obs Try.prog Cp_bound_1_E 32 (Cp_bound_1_A Kv) Cp_bound_1_C (fun _ => retQ Try.prog Try.f76.results Kv))
theorem Cp_bound_1_e (Kv : VW) (sum_0_0 sum_0_1 : Int) (a_1_0 a_1_1 : Int) (b_2_0 b_2_1 : Int) (t_3 : Addr) (w : World) : Cp_bound_1_sd sum_0_0 sum_0_1 a_1_0 a_1_1 b_2_0 b_2_1 t_3 (fun r0_0 r0_1 w' => Kv (Value.agg #[(Value.int .i64 r0_0), (Value.int .i64 r0_1)]) w') w = W Try.prog Cp_bound_1_E 32 (Cp_bound_1_A Kv) Cp_bound_1_C [] (retQ Try.prog Try.f76.results Kv) [] (startS [(Value.agg #[(Value.int .i64 sum_0_0), (Value.int .i64 sum_0_1)]), (Value.agg #[(Value.int .i64 a_1_0), (Value.int .i64 a_1_1)]), (Value.agg #[(Value.int .i64 b_2_0), (Value.int .i64 b_2_1)]), (Value.pointer (some t_3))]) w := by kernel_rfl
theorem Cp_bound_1_e0 (Kv : VW) (ρ : Rho) (t_7 y_10 : Addr) (w : World) : Cp_bound_1_k0d t_7 y_10 (fun r0_0 r0_1 w' => Kv (Value.agg #[(Value.int .i64 r0_0), (Value.int .i64 r0_1)]) w') w = goalAt Try.prog Cp_bound_1_E 32 (Cp_bound_1_O Kv) 0 (ρ) [(Value.pointer (some t_7)), (Value.pointer (some y_10))] w := by kernel_rfl
theorem Cp_bound_1_q0 (Kv : VW) (ρ : Rho) (vs : List Value) (w : World) : labAt (Cp_bound_1_O Kv) 0 ρ vs w = Cp_bound_1_P0 Kv ρ vs w := by kernel_rfl
theorem Cp_bound_1_h0 (Kv : VW) : holdsAt Try.prog Cp_bound_1_E 32 (Cp_bound_1_O Kv) 0 := holdsAt_cut (.inl (by kernel_rfl)) (fun ρ vs w h => by
  rw [Cp_bound_1_q0] at h
  unfold Cp_bound_1_P0 at h
  split at h
  · rw [← Cp_bound_1_e0]; exact h.out
  · exact h.elim)
theorem Cp_bound_1_n (Kv : VW) : obAt (Cp_bound_1_O Kv) 1 = none := by kernel_rfl
theorem Cp_bound_1_h (Kv : VW) : ∀ k, holdsAt Try.prog Cp_bound_1_E 32 (Cp_bound_1_O Kv) k := fun k => match k with
  | 0 => Cp_bound_1_h0 Kv
  | _k + 1 => holdsAt_ge (Cp_bound_1_n Kv) (Nat.le_add_left _ _)
theorem Cp_bound_1_ok : Sound Try.prog 76 Cp_bound_1_S := ⟨Try.call76, fun vs w Kv h => by
  unfold Cp_bound_1_S at h
  split at h
  · have h := h.out
    rw [Cp_bound_1_e] at h
    exact calls_sound (Γ := Cp_bound_1_E) progMixed ⟨.inl ratio_Mul_ok, .inl ratio_Add_ok, trivial⟩ Try.func76 (code := Cp_bound_1_C) (by kernel_rfl) (Cp_bound_1_A Kv) Kv (holds_all (Cp_bound_1_h Kv)) (Nat.le_of_ble_eq_true (by kernel_rfl)) h
  · exact h.elim⟩
/-! Cp_bound -/
def Cp_bound_k5d (f_2 dual_3 : Addr) (fine_6 add_7_c0 : Addr) (one_8 sum_9 : Addr) (i_10 lot_11 : Int) (best_12 x_16 : Addr) (t_30 : Sl) (t_31 t_32 : Int) (t_40 : Sl) (t_41 t_42 : Int) (N2 : Addr -> Addr -> Addr -> Addr -> Addr -> Addr -> Int -> Int -> Addr -> Sl -> Int -> Int -> Sl -> Int -> Int -> World -> Prop) (_N1 : Addr -> Addr -> Addr -> Addr -> Addr -> Addr -> Sl -> Int -> Int -> World -> Prop) (_K : Int -> Bool -> World -> Prop) (w : World) : Prop :=
  ∃ x130 : Int, w.cell? x_16 = some (Value.int .i64 x130) /\ ∃ x131 : Int, w.cell? (x_16.add 1) = some (Value.int .i64 x131) /\ wrOk w best_12 /\ 
  (let w132 := w.setCell best_12 (Value.int .i64 x130)
  wrOk w132 (best_12.add 1) /\ 
  (let w133 := w132.setCell (best_12.add 1) (Value.int .i64 x131)
  inR .i64 (t_42 + (1 : Int)) /\ N2 f_2 dual_3 fine_6 add_7_c0 one_8 sum_9 i_10 lot_11 best_12 t_30 t_31 t_32 t_40 t_41 (t_42 + (1 : Int)) w133))
structure Cp_bound_k5 (f_2 dual_3 : Addr) (fine_6 add_7_c0 : Addr) (one_8 sum_9 : Addr) (i_10 lot_11 : Int) (best_12 x_16 : Addr) (t_30 : Sl) (t_31 t_32 : Int) (t_40 : Sl) (t_41 t_42 : Int) (N2 : Addr -> Addr -> Addr -> Addr -> Addr -> Addr -> Int -> Int -> Addr -> Sl -> Int -> Int -> Sl -> Int -> Int -> World -> Prop) (N1 : Addr -> Addr -> Addr -> Addr -> Addr -> Addr -> Sl -> Int -> Int -> World -> Prop) (K : Int -> Bool -> World -> Prop) (w : World) : Prop where
  out : Cp_bound_k5d f_2 dual_3 fine_6 add_7_c0 one_8 sum_9 i_10 lot_11 best_12 x_16 t_30 t_31 t_32 t_40 t_41 t_42 N2 N1 K w
def Cp_bound_k4d (f_2 dual_3 : Addr) (fine_6 add_7_c0 : Addr) (one_8 sum_9 : Addr) (i_10 lot_11 : Int) (best_12 : Addr) (decided_15 : Bool) (x_16 : Addr) (t_30 : Sl) (t_31 t_32 : Int) (t_40 : Sl) (t_41 t_42 : Int) (N2 : Addr -> Addr -> Addr -> Addr -> Addr -> Addr -> Int -> Int -> Addr -> Sl -> Int -> Int -> Sl -> Int -> Int -> World -> Prop) (N1 : Addr -> Addr -> Addr -> Addr -> Addr -> Addr -> Sl -> Int -> Int -> World -> Prop) (K : Int -> Bool -> World -> Prop) (w : World) : Prop :=
  cnd decided_15
    (Cp_bound_k5 f_2 dual_3 fine_6 add_7_c0 one_8 sum_9 i_10 lot_11 best_12 x_16 t_30 t_31 t_32 t_40 t_41 t_42 N2 N1 K w)
    (∃ x124 : Int, w.cell? x_16 = some (Value.int .i64 x124) /\ ∃ x125 : Int, w.cell? (x_16.add 1) = some (Value.int .i64 x125) /\ ∃ x126 : Int, w.cell? best_12 = some (Value.int .i64 x126) /\ ∃ x127 : Int, w.cell? (best_12.add 1) = some (Value.int .i64 x127) /\ ratio_Cmp_sh x124 x125 x126 x127 (fun r129 w128 => cnd (decide (r129 > (0 : Int)))
    (Cp_bound_k5 f_2 dual_3 fine_6 add_7_c0 one_8 sum_9 i_10 lot_11 best_12 x_16 t_30 t_31 t_32 t_40 t_41 t_42 N2 N1 K w128)
    (inR .i64 (t_42 + (1 : Int)) /\ N2 f_2 dual_3 fine_6 add_7_c0 one_8 sum_9 i_10 lot_11 best_12 t_30 t_31 t_32 t_40 t_41 (t_42 + (1 : Int)) w128)) w)
structure Cp_bound_k4 (f_2 dual_3 : Addr) (fine_6 add_7_c0 : Addr) (one_8 sum_9 : Addr) (i_10 lot_11 : Int) (best_12 : Addr) (decided_15 : Bool) (x_16 : Addr) (t_30 : Sl) (t_31 t_32 : Int) (t_40 : Sl) (t_41 t_42 : Int) (N2 : Addr -> Addr -> Addr -> Addr -> Addr -> Addr -> Int -> Int -> Addr -> Sl -> Int -> Int -> Sl -> Int -> Int -> World -> Prop) (N1 : Addr -> Addr -> Addr -> Addr -> Addr -> Addr -> Sl -> Int -> Int -> World -> Prop) (K : Int -> Bool -> World -> Prop) (w : World) : Prop where
  out : Cp_bound_k4d f_2 dual_3 fine_6 add_7_c0 one_8 sum_9 i_10 lot_11 best_12 decided_15 x_16 t_30 t_31 t_32 t_40 t_41 t_42 N2 N1 K w
def Cp_bound_k3d (f_2 dual_3 : Addr) (fine_6 add_7_c0 : Addr) (one_8 sum_9 : Addr) (i_10 lot_11 : Int) (best_12 c_14 : Addr) (decided_15 : Bool) (t_30 : Sl) (t_31 t_32 : Int) (t_40 : Sl) (t_41 t_42 : Int) (N2 : Addr -> Addr -> Addr -> Addr -> Addr -> Addr -> Int -> Int -> Addr -> Sl -> Int -> Int -> Sl -> Int -> Int -> World -> Prop) (N1 : Addr -> Addr -> Addr -> Addr -> Addr -> Addr -> Sl -> Int -> Int -> World -> Prop) (K : Int -> Bool -> World -> Prop) (w : World) : Prop :=
  let w66 := w.drew
  ∃ S67 : World -> Prop, S67 w66 /\ ∃ x68 : Sl, (∀ w' : World, S67 w' -> w'.cell? f_2 = some (Value.slice x68.p x68.l x68.c)) /\ ∃ x69 : Sl, (∀ w' : World, S67 w' -> w'.cell? (f_2.add 1) = some (Value.slice x69.p x69.l x69.c)) /\ ∃ x70 : Sl, (∀ w' : World, S67 w' -> w'.cell? (f_2.add 2) = some (Value.slice x70.p x70.l x70.c)) /\ ∃ x71 : Int, (∀ w' : World, S67 w' -> w'.cell? (f_2.add 3) = some (Value.int .i64 x71)) /\ ∃ x72 : Int, (∀ w' : World, S67 w' -> w'.cell? (f_2.add 4) = some (Value.int .i64 x72)) /\ ∃ x73 : Sl, (∀ w' : World, S67 w' -> w'.cell? (f_2.add 5) = some (Value.slice x73.p x73.l x73.c)) /\ ∃ x74 : Int, (∀ w' : World, S67 w' -> w'.cell? c_14 = some (Value.int .i64 x74)) /\ ∃ x75 : Int, (∀ w' : World, S67 w' -> w'.cell? (c_14.add 1) = some (Value.int .i64 x75)) /\ ∃ x76 : Int, (∀ w' : World, S67 w' -> w'.cell? (c_14.add 2) = some (Value.int .i64 x76)) /\ ∃ x77 : Int, (∀ w' : World, S67 w' -> w'.cell? (c_14.add 3) = some (Value.int .i64 x77)) /\ ∃ x78 : Int, (∀ w' : World, S67 w' -> w'.cell? dual_3 = some (Value.int .i64 x78)) /\ ∃ x79 : Int, (∀ w' : World, S67 w' -> w'.cell? (dual_3.add 1) = some (Value.int .i64 x79)) /\ ∃ x80 : Int, (∀ w' : World, S67 w' -> w'.cell? (c_14.add 2) = some (Value.int .i64 x80)) /\ inR .i64 (-x80) /\ (Cp_net_sh x68 x69 x70 x71 x72 x73 x74 x75 x76 x77 (fun r82 w81 => S67 w81 /\ (ratio_Of_sh r82 (fun r84_0 r84_1 w83 => S67 w83 /\ (ratio_Of_sh (-x80) (fun r86_0 r86_1 w85 => S67 w85 /\ (Cp_bound_1_sh r84_0 r84_1 x78 x79 r86_0 r86_1 add_7_c0 (fun r88_0 r88_1 w87 => S67 w87 /\ let w89 := w87.alloc (Obj.cells #[(Value.int .i64 0), (Value.int .i64 0)] 82)
  S67 w89 /\ wrOk w89 (Addr.mk w87.heap.size 0 none) /\ 
  (let w90 := w89.setCell (Addr.mk w87.heap.size 0 none) (Value.int .i64 r88_0)
  wrOk w90 (Addr.mk w87.heap.size 1 none) /\ 
  (let w91 := w90.setCell (Addr.mk w87.heap.size 1 none) (Value.int .i64 r88_1)
  Cp_bound_k4 f_2 dual_3 fine_6 add_7_c0 one_8 sum_9 i_10 lot_11 best_12 decided_15 (Addr.mk w87.heap.size 0 none) t_30 t_31 t_32 t_40 t_41 t_42 N2 N1 K w91))) w85)
    /\ (let w92 := w85.alloc (Obj.cells #[(Value.int .i64 0), (Value.int .i64 0)] 82)
  S67 w92 /\ Cp_bound_1_sh r84_0 r84_1 x78 x79 r86_0 r86_1 add_7_c0 (fun r94_0 r94_1 w93 => S67 w93 /\ wrOk w93 (Addr.mk w85.heap.size 0 none) /\ 
  (let w95 := w93.setCell (Addr.mk w85.heap.size 0 none) (Value.int .i64 r94_0)
  wrOk w95 (Addr.mk w85.heap.size 1 none) /\ 
  (let w96 := w95.setCell (Addr.mk w85.heap.size 1 none) (Value.int .i64 r94_1)
  Cp_bound_k4 f_2 dual_3 fine_6 add_7_c0 one_8 sum_9 i_10 lot_11 best_12 decided_15 (Addr.mk w85.heap.size 0 none) t_30 t_31 t_32 t_40 t_41 t_42 N2 N1 K w96))) w92)) w83)
    /\ (let w97 := w83.alloc (Obj.cells #[(Value.int .i64 0), (Value.int .i64 0)] 82)
  S67 w97 /\ ratio_Of_sh (-x80) (fun r99_0 r99_1 w98 => S67 w98 /\ Cp_bound_1_sh r84_0 r84_1 x78 x79 r99_0 r99_1 add_7_c0 (fun r101_0 r101_1 w100 => S67 w100 /\ wrOk w100 (Addr.mk w83.heap.size 0 none) /\ 
  (let w102 := w100.setCell (Addr.mk w83.heap.size 0 none) (Value.int .i64 r101_0)
  wrOk w102 (Addr.mk w83.heap.size 1 none) /\ 
  (let w103 := w102.setCell (Addr.mk w83.heap.size 1 none) (Value.int .i64 r101_1)
  Cp_bound_k4 f_2 dual_3 fine_6 add_7_c0 one_8 sum_9 i_10 lot_11 best_12 decided_15 (Addr.mk w83.heap.size 0 none) t_30 t_31 t_32 t_40 t_41 t_42 N2 N1 K w103))) w98) w97)) w81)
    /\ (let w104 := w81.alloc (Obj.cells #[(Value.int .i64 0), (Value.int .i64 0)] 82)
  S67 w104 /\ ratio_Of_sh r82 (fun r106_0 r106_1 w105 => S67 w105 /\ ratio_Of_sh (-x80) (fun r108_0 r108_1 w107 => S67 w107 /\ Cp_bound_1_sh r106_0 r106_1 x78 x79 r108_0 r108_1 add_7_c0 (fun r110_0 r110_1 w109 => S67 w109 /\ wrOk w109 (Addr.mk w81.heap.size 0 none) /\ 
  (let w111 := w109.setCell (Addr.mk w81.heap.size 0 none) (Value.int .i64 r110_0)
  wrOk w111 (Addr.mk w81.heap.size 1 none) /\ 
  (let w112 := w111.setCell (Addr.mk w81.heap.size 1 none) (Value.int .i64 r110_1)
  Cp_bound_k4 f_2 dual_3 fine_6 add_7_c0 one_8 sum_9 i_10 lot_11 best_12 decided_15 (Addr.mk w81.heap.size 0 none) t_30 t_31 t_32 t_40 t_41 t_42 N2 N1 K w112))) w107) w105) w104)) w66)
    /\ (let w113 := w66.alloc (Obj.cells #[(Value.int .i64 0), (Value.int .i64 0)] 82)
  S67 w113 /\ Cp_net_sh x68 x69 x70 x71 x72 x73 x74 x75 x76 x77 (fun r115 w114 => S67 w114 /\ ratio_Of_sh r115 (fun r117_0 r117_1 w116 => S67 w116 /\ ratio_Of_sh (-x80) (fun r119_0 r119_1 w118 => S67 w118 /\ Cp_bound_1_sh r117_0 r117_1 x78 x79 r119_0 r119_1 add_7_c0 (fun r121_0 r121_1 w120 => S67 w120 /\ wrOk w120 (Addr.mk w66.heap.size 0 none) /\ 
  (let w122 := w120.setCell (Addr.mk w66.heap.size 0 none) (Value.int .i64 r121_0)
  wrOk w122 (Addr.mk w66.heap.size 1 none) /\ 
  (let w123 := w122.setCell (Addr.mk w66.heap.size 1 none) (Value.int .i64 r121_1)
  Cp_bound_k4 f_2 dual_3 fine_6 add_7_c0 one_8 sum_9 i_10 lot_11 best_12 decided_15 (Addr.mk w66.heap.size 0 none) t_30 t_31 t_32 t_40 t_41 t_42 N2 N1 K w123))) w118) w116) w114) w113)
structure Cp_bound_k3 (f_2 dual_3 : Addr) (fine_6 add_7_c0 : Addr) (one_8 sum_9 : Addr) (i_10 lot_11 : Int) (best_12 c_14 : Addr) (decided_15 : Bool) (t_30 : Sl) (t_31 t_32 : Int) (t_40 : Sl) (t_41 t_42 : Int) (N2 : Addr -> Addr -> Addr -> Addr -> Addr -> Addr -> Int -> Int -> Addr -> Sl -> Int -> Int -> Sl -> Int -> Int -> World -> Prop) (N1 : Addr -> Addr -> Addr -> Addr -> Addr -> Addr -> Sl -> Int -> Int -> World -> Prop) (K : Int -> Bool -> World -> Prop) (w : World) : Prop where
  out : Cp_bound_k3d f_2 dual_3 fine_6 add_7_c0 one_8 sum_9 i_10 lot_11 best_12 c_14 decided_15 t_30 t_31 t_32 t_40 t_41 t_42 N2 N1 K w
def Cp_bound_b2 (f_2 dual_3 : Addr) (fine_6 add_7_c0 : Addr) (one_8 sum_9 : Addr) (i_10 lot_11 : Int) (best_12 : Addr) (t_30 : Sl) (t_31 t_32 : Int) (t_40 : Sl) (t_41 t_42 : Int) (N2 : Addr -> Addr -> Addr -> Addr -> Addr -> Addr -> Int -> Int -> Addr -> Sl -> Int -> Int -> Sl -> Int -> Int -> World -> Prop) (N1 : Addr -> Addr -> Addr -> Addr -> Addr -> Addr -> Sl -> Int -> Int -> World -> Prop) (K : Int -> Bool -> World -> Prop) (w : World) : Prop :=
  cnd (decide (t_42 < t_41))
    (nz t_40.p fun a54 => (0 <= t_42 /\ t_42 < (t_40.l : Nat)) /\ ∃ x55 : Int, w.cell? (a54.add (t_42.toNat * 4)) = some (Value.int .i64 x55) /\ ∃ x56 : Int, w.cell? ((a54.add (t_42.toNat * 4)).add 1) = some (Value.int .i64 x56) /\ ∃ x57 : Int, w.cell? ((a54.add (t_42.toNat * 4)).add 2) = some (Value.int .i64 x57) /\ ∃ x58 : Int, w.cell? ((a54.add (t_42.toNat * 4)).add 3) = some (Value.int .i64 x58) /\ let w59 := w.alloc (Obj.cells #[(Value.int .i64 0), (Value.int .i64 0), (Value.int .i64 0), (Value.int .i64 0)] 56)
  stN w59 (Addr.mk w.heap.size 0 none) [(Value.int .i64 x55), (Value.int .i64 x56), (Value.int .i64 x57), (Value.int .i64 x58)] fun w60 => ∃ x61 : Sl, w60.cell? (f_2.add 5) = some (Value.slice x61.p x61.l x61.c) /\ ∃ x62 : Int, w60.cell? (Addr.mk w.heap.size 0 none) = some (Value.int .i64 x62) /\ cnd (x62 != lot_11)
    (inR .i64 (t_42 + (1 : Int)) /\ N2 f_2 dual_3 fine_6 add_7_c0 one_8 sum_9 i_10 lot_11 best_12 t_30 t_31 t_32 t_40 t_41 (t_42 + (1 : Int)) w60)
    (cnd (decide (i_10 < (x61.l : Int)))
    (∃ x63 : Sl, w60.cell? (f_2.add 5) = some (Value.slice x63.p x63.l x63.c) /\ nz x63.p fun a64 => (0 <= i_10 /\ i_10 < (x63.l : Nat)) /\ ∃ x65 : Int, w60.cell? (a64.add (i_10.toNat * 1)) = some (Value.int .i64 x65) /\ cnd (x65 != t_42)
    (inR .i64 (t_42 + (1 : Int)) /\ N2 f_2 dual_3 fine_6 add_7_c0 one_8 sum_9 i_10 lot_11 best_12 t_30 t_31 t_32 t_40 t_41 (t_42 + (1 : Int)) w60)
    (Cp_bound_k3 f_2 dual_3 fine_6 add_7_c0 one_8 sum_9 i_10 lot_11 best_12 (Addr.mk w.heap.size 0 none) (decide (i_10 < (x61.l : Int))) t_30 t_31 t_32 t_40 t_41 t_42 N2 N1 K w60))
    (Cp_bound_k3 f_2 dual_3 fine_6 add_7_c0 one_8 sum_9 i_10 lot_11 best_12 (Addr.mk w.heap.size 0 none) (decide (i_10 < (x61.l : Int))) t_30 t_31 t_32 t_40 t_41 t_42 N2 N1 K w60)))
    (∃ x134 : Int, w.cell? sum_9 = some (Value.int .i64 x134) /\ ∃ x135 : Int, w.cell? (sum_9.add 1) = some (Value.int .i64 x135) /\ ∃ x136 : Int, w.cell? one_8 = some (Value.int .i64 x136) /\ ∃ x137 : Int, w.cell? (one_8.add 1) = some (Value.int .i64 x137) /\ ∃ x138 : Int, w.cell? best_12 = some (Value.int .i64 x138) /\ ∃ x139 : Int, w.cell? (best_12.add 1) = some (Value.int .i64 x139) /\ Cp_bound_1_sh x134 x135 x136 x137 x138 x139 add_7_c0 (fun r141_0 r141_1 w140 => wrOk w140 sum_9 /\ 
  (let w142 := w140.setCell sum_9 (Value.int .i64 r141_0)
  wrOk w142 (sum_9.add 1) /\ 
  (let w143 := w142.setCell (sum_9.add 1) (Value.int .i64 r141_1)
  inR .i64 (t_32 + (1 : Int)) /\ N1 f_2 dual_3 fine_6 add_7_c0 one_8 sum_9 t_30 t_31 (t_32 + (1 : Int)) w143))) w)
def Cp_bound_l2d (f_2 dual_3 : Addr) (fine_6 add_7_c0 : Addr) (one_8 sum_9 : Addr) (i_10 lot_11 : Int) (best_12 : Addr) (t_30 : Sl) (t_31 t_32 : Int) (t_40 : Sl) (t_41 t_42 : Int) (N1 : Addr -> Addr -> Addr -> Addr -> Addr -> Addr -> Sl -> Int -> Int -> World -> Prop) (K : Int -> Bool -> World -> Prop) (w : World) : Prop :=
  ∃ (I : Int -> World -> Prop) (μ : Int -> World -> Nat), I t_42 w /\ ∀ (t_421 : Int) (w1 : World), I t_421 w1 ->
    Cp_bound_b2 f_2 dual_3 fine_6 add_7_c0 one_8 sum_9 i_10 lot_11 best_12 t_30 t_31 t_32 t_40 t_41 t_421 (fun f_2' dual_3' fine_6' add_7_c0' one_8' sum_9' i_10' lot_11' best_12' t_30' t_31' t_32' t_40' t_41' t_42' w' => ((f_2' = f_2 /\ dual_3' = dual_3 /\ fine_6' = fine_6 /\ add_7_c0' = add_7_c0 /\ one_8' = one_8 /\ sum_9' = sum_9 /\ i_10' = i_10 /\ lot_11' = lot_11 /\ best_12' = best_12 /\ t_30' = t_30 /\ t_31' = t_31 /\ t_32' = t_32 /\ t_40' = t_40 /\ t_41' = t_41 /\ True) /\ I t_42' w') /\ μ t_42' w' < μ t_421 w1) N1 K w1
structure Cp_bound_l2 (f_2 dual_3 : Addr) (fine_6 add_7_c0 : Addr) (one_8 sum_9 : Addr) (i_10 lot_11 : Int) (best_12 : Addr) (t_30 : Sl) (t_31 t_32 : Int) (t_40 : Sl) (t_41 t_42 : Int) (N1 : Addr -> Addr -> Addr -> Addr -> Addr -> Addr -> Sl -> Int -> Int -> World -> Prop) (K : Int -> Bool -> World -> Prop) (w : World) : Prop where
  out : Cp_bound_l2d f_2 dual_3 fine_6 add_7_c0 one_8 sum_9 i_10 lot_11 best_12 t_30 t_31 t_32 t_40 t_41 t_42 N1 K w
def Cp_bound_b1 (f_2 dual_3 : Addr) (fine_6 add_7_c0 : Addr) (one_8 sum_9 : Addr) (t_30 : Sl) (t_31 t_32 : Int) (N1 : Addr -> Addr -> Addr -> Addr -> Addr -> Addr -> Sl -> Int -> Int -> World -> Prop) (K : Int -> Bool -> World -> Prop) (w : World) : Prop :=
  cnd (decide (t_32 < t_31))
    (nz t_30.p fun a46 => (0 <= t_32 /\ t_32 < (t_30.l : Nat)) /\ ∃ x47 : Int, w.cell? (a46.add (t_32.toNat * 1)) = some (Value.int .i64 x47) /\ ratio_Of_sh (0 : Int) (fun r49_0 r49_1 w48 => let w50 := w48.alloc (Obj.cells #[(Value.int .i64 0), (Value.int .i64 0)] 82)
  wrOk w50 (Addr.mk w48.heap.size 0 none) /\ 
  (let w51 := w50.setCell (Addr.mk w48.heap.size 0 none) (Value.int .i64 r49_0)
  wrOk w51 (Addr.mk w48.heap.size 1 none) /\ 
  (let w52 := w51.setCell (Addr.mk w48.heap.size 1 none) (Value.int .i64 r49_1)
  ∃ x53 : Sl, w52.cell? (f_2.add 1) = some (Value.slice x53.p x53.l x53.c) /\ Cp_bound_l2 f_2 dual_3 fine_6 add_7_c0 one_8 sum_9 t_32 x47 (Addr.mk w48.heap.size 0 none) t_30 t_31 t_32 x53 (x53.l : Int) (0 : Int) N1 K w52))) w)
    (∃ x144 : Int, w.cell? one_8 = some (Value.int .i64 x144) /\ ∃ x145 : Int, w.cell? (one_8.add 1) = some (Value.int .i64 x145) /\ ∃ x146 : Int, w.cell? one_8 = some (Value.int .i64 x146) /\ ∃ x147 : Int, w.cell? (one_8.add 1) = some (Value.int .i64 x147) /\ ∃ x148 : Int, w.cell? dual_3 = some (Value.int .i64 x148) /\ ∃ x149 : Int, w.cell? (dual_3.add 1) = some (Value.int .i64 x149) /\ Cp_bound_1_sh x144 x145 x146 x147 x148 x149 add_7_c0 (fun r151_0 r151_1 w150 => let w152 := w150.alloc (Obj.cells #[(Value.int .i64 0), (Value.int .i64 0)] 82)
  wrOk w152 (Addr.mk w150.heap.size 0 none) /\ 
  (let w153 := w152.setCell (Addr.mk w150.heap.size 0 none) (Value.int .i64 r151_0)
  wrOk w153 (Addr.mk w150.heap.size 1 none) /\ 
  (let w154 := w153.setCell (Addr.mk w150.heap.size 1 none) (Value.int .i64 r151_1)
  let w155 := w154.drew
  ∃ S156 : World -> Prop, S156 w155 /\ ∃ x157 : Int, (∀ w' : World, S156 w' -> w'.cell? sum_9 = some (Value.int .i64 x157)) /\ ∃ x158 : Int, (∀ w' : World, S156 w' -> w'.cell? (sum_9.add 1) = some (Value.int .i64 x158)) /\ ∃ x159 : Int, (∀ w' : World, S156 w' -> w'.cell? (Addr.mk w150.heap.size 0 none) = some (Value.int .i64 x159)) /\ ∃ x160 : Int, (∀ w' : World, S156 w' -> w'.cell? (Addr.mk w150.heap.size 1 none) = some (Value.int .i64 x160)) /\ ∃ x161 : Sl, (∀ w' : World, S156 w' -> w'.cell? f_2 = some (Value.slice x161.p x161.l x161.c)) /\ ∃ x162 : Sl, (∀ w' : World, S156 w' -> w'.cell? (f_2.add 1) = some (Value.slice x162.p x162.l x162.c)) /\ ∃ x163 : Sl, (∀ w' : World, S156 w' -> w'.cell? (f_2.add 2) = some (Value.slice x163.p x163.l x163.c)) /\ ∃ x164 : Int, (∀ w' : World, S156 w' -> w'.cell? (f_2.add 3) = some (Value.int .i64 x164)) /\ ∃ x165 : Int, (∀ w' : World, S156 w' -> w'.cell? (f_2.add 4) = some (Value.int .i64 x165)) /\ ∃ x166 : Sl, (∀ w' : World, S156 w' -> w'.cell? (f_2.add 5) = some (Value.slice x166.p x166.l x166.c)) /\ Cp_offs_sh x161 x162 x163 x164 x165 x166 (fun r168 w167 => S156 w167 /\ ratio_Of_sh r168 (fun r170_0 r170_1 w169 => S156 w169 /\ Cp_bound_1_sh x157 x158 x159 x160 r170_0 r170_1 add_7_c0 (fun r172_0 r172_1 w171 => S156 w171 /\ wrOk w171 sum_9 /\ 
  (let w173 := w171.setCell sum_9 (Value.int .i64 r172_0)
  wrOk w173 (sum_9.add 1) /\ 
  (let w174 := w173.setCell (sum_9.add 1) (Value.int .i64 r172_1)
  let w175 := w174.drew
  ∃ S176 : World -> Prop, S176 w175 /\ ∃ x177 : Int, (∀ w' : World, S176 w' -> w'.cell? sum_9 = some (Value.int .i64 x177)) /\ ∃ x178 : Int, (∀ w' : World, S176 w' -> w'.cell? (sum_9.add 1) = some (Value.int .i64 x178)) /\ ∃ x179 : Bool, (∀ w' : World, S176 w' -> w'.cell? fine_6 = some (Value.bool x179)) /\ ratio_Floor_sh x177 x178 (fun r181 w180 => S176 w180 /\ K r181 x179 w180) w175))) w169) w167) w155))) w)
def Cp_bound_l1d (f_2 dual_3 : Addr) (fine_6 add_7_c0 : Addr) (one_8 sum_9 : Addr) (t_30 : Sl) (t_31 t_32 : Int) (K : Int -> Bool -> World -> Prop) (w : World) : Prop :=
  ∃ (I : Int -> World -> Prop) (μ : Int -> World -> Nat), I t_32 w /\ ∀ (t_321 : Int) (w1 : World), I t_321 w1 ->
    Cp_bound_b1 f_2 dual_3 fine_6 add_7_c0 one_8 sum_9 t_30 t_31 t_321 (fun f_2' dual_3' fine_6' add_7_c0' one_8' sum_9' t_30' t_31' t_32' w' => ((f_2' = f_2 /\ dual_3' = dual_3 /\ fine_6' = fine_6 /\ add_7_c0' = add_7_c0 /\ one_8' = one_8 /\ sum_9' = sum_9 /\ t_30' = t_30 /\ t_31' = t_31 /\ True) /\ I t_32' w') /\ μ t_32' w' < μ t_321 w1) K w1
structure Cp_bound_l1 (f_2 dual_3 : Addr) (fine_6 add_7_c0 : Addr) (one_8 sum_9 : Addr) (t_30 : Sl) (t_31 t_32 : Int) (K : Int -> Bool -> World -> Prop) (w : World) : Prop where
  out : Cp_bound_l1d f_2 dual_3 fine_6 add_7_c0 one_8 sum_9 t_30 t_31 t_32 K w
def Cp_bound_k0d (f_2 dual_3 : Addr) (fine_6 add_7_c0 : Addr) (one_8 sum_9 : Addr) (K : Int -> Bool -> World -> Prop) (w : World) : Prop :=
  ∃ x45 : Sl, w.cell? f_2 = some (Value.slice x45.p x45.l x45.c) /\ Cp_bound_l1 f_2 dual_3 fine_6 add_7_c0 one_8 sum_9 x45 (x45.l : Int) (0 : Int) K w
structure Cp_bound_k0 (f_2 dual_3 : Addr) (fine_6 add_7_c0 : Addr) (one_8 sum_9 : Addr) (K : Int -> Bool -> World -> Prop) (w : World) : Prop where
  out : Cp_bound_k0d f_2 dual_3 fine_6 add_7_c0 one_8 sum_9 K w
def Cp_bound_sd (f_0_0 f_0_1 f_0_2 : Sl) (f_0_3 f_0_4 : Int) (f_0_5 : Sl) (dual_1_0 dual_1_1 : Int) (K : Int -> Bool -> World -> Prop) (w : World) : Prop :=
  let w1 := w.alloc (Obj.cells #[(Value.slice f_0_0.p f_0_0.l f_0_0.c), (Value.slice f_0_1.p f_0_1.l f_0_1.c), (Value.slice f_0_2.p f_0_2.l f_0_2.c), (Value.int .i64 f_0_3), (Value.int .i64 f_0_4), (Value.slice f_0_5.p f_0_5.l f_0_5.c)] 65)
  let w2 := w1.alloc (Obj.cells #[(Value.int .i64 dual_1_0), (Value.int .i64 dual_1_1)] 82)
  let w3 := w2.alloc (Obj.cells #[(Value.bool false)] 4)
  wrOk w3 (Addr.mk w2.heap.size 0 none) /\ 
  (let w4 := w3.setCell (Addr.mk w2.heap.size 0 none) (Value.bool true)
  ratio_Of_sh (1 : Int) (fun r6_0 r6_1 w5 => let w7 := w5.alloc (Obj.cells #[(Value.int .i64 0), (Value.int .i64 0)] 82)
  wrOk w7 (Addr.mk w5.heap.size 0 none) /\ 
  (let w8 := w7.setCell (Addr.mk w5.heap.size 0 none) (Value.int .i64 r6_0)
  wrOk w8 (Addr.mk w5.heap.size 1 none) /\ 
  (let w9 := w8.setCell (Addr.mk w5.heap.size 1 none) (Value.int .i64 r6_1)
  let w10 := w9.drew
  ∃ S11 : World -> Prop, S11 w10 /\ ∃ x12 : Int, (∀ w' : World, S11 w' -> w'.cell? (Addr.mk w1.heap.size 0 none) = some (Value.int .i64 x12)) /\ ∃ x13 : Int, (∀ w' : World, S11 w' -> w'.cell? (Addr.mk w1.heap.size 1 none) = some (Value.int .i64 x13)) /\ ∃ x14 : Int, (∀ w' : World, S11 w' -> w'.cell? (Addr.mk w.heap.size 4 none) = some (Value.int .i64 x14)) /\ (ratio_Of_sh (0 : Int) (fun r16_0 r16_1 w15 => S11 w15 /\ (ratio_Of_sh x14 (fun r18_0 r18_1 w17 => S11 w17 /\ (Cp_bound_1_sh r16_0 r16_1 x12 x13 r18_0 r18_1 (Addr.mk w2.heap.size 0 none) (fun r20_0 r20_1 w19 => S11 w19 /\ let w21 := w19.alloc (Obj.cells #[(Value.int .i64 0), (Value.int .i64 0)] 82)
  S11 w21 /\ wrOk w21 (Addr.mk w19.heap.size 0 none) /\ 
  (let w22 := w21.setCell (Addr.mk w19.heap.size 0 none) (Value.int .i64 r20_0)
  wrOk w22 (Addr.mk w19.heap.size 1 none) /\ 
  (let w23 := w22.setCell (Addr.mk w19.heap.size 1 none) (Value.int .i64 r20_1)
  Cp_bound_k0 (Addr.mk w.heap.size 0 none) (Addr.mk w1.heap.size 0 none) (Addr.mk w2.heap.size 0 none) (Addr.mk w2.heap.size 0 none) (Addr.mk w5.heap.size 0 none) (Addr.mk w19.heap.size 0 none) K w23))) w17)
    /\ (let w24 := w17.alloc (Obj.cells #[(Value.int .i64 0), (Value.int .i64 0)] 82)
  S11 w24 /\ Cp_bound_1_sh r16_0 r16_1 x12 x13 r18_0 r18_1 (Addr.mk w2.heap.size 0 none) (fun r26_0 r26_1 w25 => S11 w25 /\ wrOk w25 (Addr.mk w17.heap.size 0 none) /\ 
  (let w27 := w25.setCell (Addr.mk w17.heap.size 0 none) (Value.int .i64 r26_0)
  wrOk w27 (Addr.mk w17.heap.size 1 none) /\ 
  (let w28 := w27.setCell (Addr.mk w17.heap.size 1 none) (Value.int .i64 r26_1)
  Cp_bound_k0 (Addr.mk w.heap.size 0 none) (Addr.mk w1.heap.size 0 none) (Addr.mk w2.heap.size 0 none) (Addr.mk w2.heap.size 0 none) (Addr.mk w5.heap.size 0 none) (Addr.mk w17.heap.size 0 none) K w28))) w24)) w15)
    /\ (let w29 := w15.alloc (Obj.cells #[(Value.int .i64 0), (Value.int .i64 0)] 82)
  S11 w29 /\ ratio_Of_sh x14 (fun r31_0 r31_1 w30 => S11 w30 /\ Cp_bound_1_sh r16_0 r16_1 x12 x13 r31_0 r31_1 (Addr.mk w2.heap.size 0 none) (fun r33_0 r33_1 w32 => S11 w32 /\ wrOk w32 (Addr.mk w15.heap.size 0 none) /\ 
  (let w34 := w32.setCell (Addr.mk w15.heap.size 0 none) (Value.int .i64 r33_0)
  wrOk w34 (Addr.mk w15.heap.size 1 none) /\ 
  (let w35 := w34.setCell (Addr.mk w15.heap.size 1 none) (Value.int .i64 r33_1)
  Cp_bound_k0 (Addr.mk w.heap.size 0 none) (Addr.mk w1.heap.size 0 none) (Addr.mk w2.heap.size 0 none) (Addr.mk w2.heap.size 0 none) (Addr.mk w5.heap.size 0 none) (Addr.mk w15.heap.size 0 none) K w35))) w30) w29)) w10)
    /\ (let w36 := w10.alloc (Obj.cells #[(Value.int .i64 0), (Value.int .i64 0)] 82)
  S11 w36 /\ ratio_Of_sh (0 : Int) (fun r38_0 r38_1 w37 => S11 w37 /\ ratio_Of_sh x14 (fun r40_0 r40_1 w39 => S11 w39 /\ Cp_bound_1_sh r38_0 r38_1 x12 x13 r40_0 r40_1 (Addr.mk w2.heap.size 0 none) (fun r42_0 r42_1 w41 => S11 w41 /\ wrOk w41 (Addr.mk w10.heap.size 0 none) /\ 
  (let w43 := w41.setCell (Addr.mk w10.heap.size 0 none) (Value.int .i64 r42_0)
  wrOk w43 (Addr.mk w10.heap.size 1 none) /\ 
  (let w44 := w43.setCell (Addr.mk w10.heap.size 1 none) (Value.int .i64 r42_1)
  Cp_bound_k0 (Addr.mk w.heap.size 0 none) (Addr.mk w1.heap.size 0 none) (Addr.mk w2.heap.size 0 none) (Addr.mk w2.heap.size 0 none) (Addr.mk w5.heap.size 0 none) (Addr.mk w10.heap.size 0 none) K w44))) w39) w37) w36)))) w4)
structure Cp_bound_sh (f_0_0 f_0_1 f_0_2 : Sl) (f_0_3 f_0_4 : Int) (f_0_5 : Sl) (dual_1_0 dual_1_1 : Int) (K : Int -> Bool -> World -> Prop) (w : World) : Prop where
  out : Cp_bound_sd f_0_0 f_0_1 f_0_2 f_0_3 f_0_4 f_0_5 dual_1_0 dual_1_1 K w
def Cp_bound_P0 (Kv : VW) (ρ : Rho) (vs : List Value) (w : World) : Prop :=
  match ρ, vs with
  | _, [.pointer (some f_2), .pointer (some dual_3), .pointer (some fine_6), .func (.func 76) ⟨[]⟩ ⟨[.pointer (some add_7_c0)]⟩, .pointer (some one_8), .pointer (some sum_9)] => Cp_bound_k0 f_2 dual_3 fine_6 add_7_c0 one_8 sum_9 (fun r0 r1 w' => Kv (Value.tuple #[(Value.int .i64 r0), (Value.bool r1)]) w') w
  | _, _ => False
def Cp_bound_P1 (Kv : VW) (ρ : Rho) (vs : List Value) (w : World) : Prop :=
  match ρ, vs with
  | _, [.pointer (some f_2), .pointer (some dual_3), .pointer (some fine_6), .func (.func 76) ⟨[]⟩ ⟨[.pointer (some add_7_c0)]⟩, .pointer (some one_8), .pointer (some sum_9), .slice t_30p t_30l t_30c, .int .i64 t_31, .int .i64 t_32] => Cp_bound_l1 f_2 dual_3 fine_6 add_7_c0 one_8 sum_9 ⟨t_30p, t_30l, t_30c⟩ t_31 t_32 (fun r0 r1 w' => Kv (Value.tuple #[(Value.int .i64 r0), (Value.bool r1)]) w') w
  | _, _ => False
def Cp_bound_P2 (Kv : VW) (ρ : Rho) (vs : List Value) (w : World) : Prop :=
  match ρ, vs with
  | N1 :: _, [.pointer (some f_2), .pointer (some dual_3), .pointer (some fine_6), .func (.func 76) ⟨[]⟩ ⟨[.pointer (some add_7_c0)]⟩, .pointer (some one_8), .pointer (some sum_9), .int .i64 i_10, .int .i64 lot_11, .pointer (some best_12), .slice t_30p t_30l t_30c, .int .i64 t_31, .int .i64 t_32, .slice t_40p t_40l t_40c, .int .i64 t_41, .int .i64 t_42] => Cp_bound_l2 f_2 dual_3 fine_6 add_7_c0 one_8 sum_9 i_10 lot_11 best_12 ⟨t_30p, t_30l, t_30c⟩ t_31 t_32 ⟨t_40p, t_40l, t_40c⟩ t_41 t_42 (fun f_2' dual_3' fine_6' add_7_c0' one_8' sum_9' t_30' t_31' t_32' w' => N1 [(Value.pointer (some f_2')), (Value.pointer (some dual_3')), (Value.pointer (some fine_6')), (Value.func (.func 76) #[] #[(Value.pointer (some add_7_c0'))]), (Value.pointer (some one_8')), (Value.pointer (some sum_9')), (Value.slice t_30'.p t_30'.l t_30'.c), (Value.int .i64 t_31'), (Value.int .i64 t_32')] w') (fun r0 r1 w' => Kv (Value.tuple #[(Value.int .i64 r0), (Value.bool r1)]) w') w
  | _, _ => False
def Cp_bound_P3 (Kv : VW) (ρ : Rho) (vs : List Value) (w : World) : Prop :=
  match ρ, vs with
  | N2 :: N1 :: _, [.pointer (some f_2), .pointer (some dual_3), .pointer (some fine_6), .func (.func 76) ⟨[]⟩ ⟨[.pointer (some add_7_c0)]⟩, .pointer (some one_8), .pointer (some sum_9), .int .i64 i_10, .int .i64 lot_11, .pointer (some best_12), .pointer (some c_14), .bool decided_15, .slice t_30p t_30l t_30c, .int .i64 t_31, .int .i64 t_32, .slice t_40p t_40l t_40c, .int .i64 t_41, .int .i64 t_42] => Cp_bound_k3 f_2 dual_3 fine_6 add_7_c0 one_8 sum_9 i_10 lot_11 best_12 c_14 decided_15 ⟨t_30p, t_30l, t_30c⟩ t_31 t_32 ⟨t_40p, t_40l, t_40c⟩ t_41 t_42 (fun f_2' dual_3' fine_6' add_7_c0' one_8' sum_9' i_10' lot_11' best_12' t_30' t_31' t_32' t_40' t_41' t_42' w' => N2 [(Value.pointer (some f_2')), (Value.pointer (some dual_3')), (Value.pointer (some fine_6')), (Value.func (.func 76) #[] #[(Value.pointer (some add_7_c0'))]), (Value.pointer (some one_8')), (Value.pointer (some sum_9')), (Value.int .i64 i_10'), (Value.int .i64 lot_11'), (Value.pointer (some best_12')), (Value.slice t_30'.p t_30'.l t_30'.c), (Value.int .i64 t_31'), (Value.int .i64 t_32'), (Value.slice t_40'.p t_40'.l t_40'.c), (Value.int .i64 t_41'), (Value.int .i64 t_42')] w') (fun f_2' dual_3' fine_6' add_7_c0' one_8' sum_9' t_30' t_31' t_32' w' => N1 [(Value.pointer (some f_2')), (Value.pointer (some dual_3')), (Value.pointer (some fine_6')), (Value.func (.func 76) #[] #[(Value.pointer (some add_7_c0'))]), (Value.pointer (some one_8')), (Value.pointer (some sum_9')), (Value.slice t_30'.p t_30'.l t_30'.c), (Value.int .i64 t_31'), (Value.int .i64 t_32')] w') (fun r0 r1 w' => Kv (Value.tuple #[(Value.int .i64 r0), (Value.bool r1)]) w') w
  | _, _ => False
def Cp_bound_P4 (Kv : VW) (ρ : Rho) (vs : List Value) (w : World) : Prop :=
  match ρ, vs with
  | N2 :: N1 :: _, [.pointer (some f_2), .pointer (some dual_3), .pointer (some fine_6), .func (.func 76) ⟨[]⟩ ⟨[.pointer (some add_7_c0)]⟩, .pointer (some one_8), .pointer (some sum_9), .int .i64 i_10, .int .i64 lot_11, .pointer (some best_12), .bool decided_15, .pointer (some x_16), .slice t_30p t_30l t_30c, .int .i64 t_31, .int .i64 t_32, .slice t_40p t_40l t_40c, .int .i64 t_41, .int .i64 t_42] => Cp_bound_k4 f_2 dual_3 fine_6 add_7_c0 one_8 sum_9 i_10 lot_11 best_12 decided_15 x_16 ⟨t_30p, t_30l, t_30c⟩ t_31 t_32 ⟨t_40p, t_40l, t_40c⟩ t_41 t_42 (fun f_2' dual_3' fine_6' add_7_c0' one_8' sum_9' i_10' lot_11' best_12' t_30' t_31' t_32' t_40' t_41' t_42' w' => N2 [(Value.pointer (some f_2')), (Value.pointer (some dual_3')), (Value.pointer (some fine_6')), (Value.func (.func 76) #[] #[(Value.pointer (some add_7_c0'))]), (Value.pointer (some one_8')), (Value.pointer (some sum_9')), (Value.int .i64 i_10'), (Value.int .i64 lot_11'), (Value.pointer (some best_12')), (Value.slice t_30'.p t_30'.l t_30'.c), (Value.int .i64 t_31'), (Value.int .i64 t_32'), (Value.slice t_40'.p t_40'.l t_40'.c), (Value.int .i64 t_41'), (Value.int .i64 t_42')] w') (fun f_2' dual_3' fine_6' add_7_c0' one_8' sum_9' t_30' t_31' t_32' w' => N1 [(Value.pointer (some f_2')), (Value.pointer (some dual_3')), (Value.pointer (some fine_6')), (Value.func (.func 76) #[] #[(Value.pointer (some add_7_c0'))]), (Value.pointer (some one_8')), (Value.pointer (some sum_9')), (Value.slice t_30'.p t_30'.l t_30'.c), (Value.int .i64 t_31'), (Value.int .i64 t_32')] w') (fun r0 r1 w' => Kv (Value.tuple #[(Value.int .i64 r0), (Value.bool r1)]) w') w
  | _, _ => False
def Cp_bound_P5 (Kv : VW) (ρ : Rho) (vs : List Value) (w : World) : Prop :=
  match ρ, vs with
  | N2 :: N1 :: _, [.pointer (some f_2), .pointer (some dual_3), .pointer (some fine_6), .func (.func 76) ⟨[]⟩ ⟨[.pointer (some add_7_c0)]⟩, .pointer (some one_8), .pointer (some sum_9), .int .i64 i_10, .int .i64 lot_11, .pointer (some best_12), .pointer (some x_16), .slice t_30p t_30l t_30c, .int .i64 t_31, .int .i64 t_32, .slice t_40p t_40l t_40c, .int .i64 t_41, .int .i64 t_42] => Cp_bound_k5 f_2 dual_3 fine_6 add_7_c0 one_8 sum_9 i_10 lot_11 best_12 x_16 ⟨t_30p, t_30l, t_30c⟩ t_31 t_32 ⟨t_40p, t_40l, t_40c⟩ t_41 t_42 (fun f_2' dual_3' fine_6' add_7_c0' one_8' sum_9' i_10' lot_11' best_12' t_30' t_31' t_32' t_40' t_41' t_42' w' => N2 [(Value.pointer (some f_2')), (Value.pointer (some dual_3')), (Value.pointer (some fine_6')), (Value.func (.func 76) #[] #[(Value.pointer (some add_7_c0'))]), (Value.pointer (some one_8')), (Value.pointer (some sum_9')), (Value.int .i64 i_10'), (Value.int .i64 lot_11'), (Value.pointer (some best_12')), (Value.slice t_30'.p t_30'.l t_30'.c), (Value.int .i64 t_31'), (Value.int .i64 t_32'), (Value.slice t_40'.p t_40'.l t_40'.c), (Value.int .i64 t_41'), (Value.int .i64 t_42')] w') (fun f_2' dual_3' fine_6' add_7_c0' one_8' sum_9' t_30' t_31' t_32' w' => N1 [(Value.pointer (some f_2')), (Value.pointer (some dual_3')), (Value.pointer (some fine_6')), (Value.func (.func 76) #[] #[(Value.pointer (some add_7_c0'))]), (Value.pointer (some one_8')), (Value.pointer (some sum_9')), (Value.slice t_30'.p t_30'.l t_30'.c), (Value.int .i64 t_31'), (Value.int .i64 t_32')] w') (fun r0 r1 w' => Kv (Value.tuple #[(Value.int .i64 r0), (Value.bool r1)]) w') w
  | _, _ => False
noncomputable def Cp_bound_S : Pw.Spec := fun vs w Kv =>
  match vs with
  | [.agg ⟨[.slice f_0_0p f_0_0l f_0_0c, .slice f_0_1p f_0_1l f_0_1c, .slice f_0_2p f_0_2l f_0_2c, .int .i64 f_0_3, .int .i64 f_0_4, .slice f_0_5p f_0_5l f_0_5c]⟩, .agg ⟨[.int .i64 dual_1_0, .int .i64 dual_1_1]⟩] => Cp_bound_sh ⟨f_0_0p, f_0_0l, f_0_0c⟩ ⟨f_0_1p, f_0_1l, f_0_1c⟩ ⟨f_0_2p, f_0_2l, f_0_2c⟩ f_0_3 f_0_4 ⟨f_0_5p, f_0_5l, f_0_5c⟩ dual_1_0 dual_1_1 (fun r0 r1 w' => Kv (Value.tuple #[(Value.int .i64 r0), (Value.bool r1)]) w') w
  | _ => False
noncomputable def Cp_bound_E : Pw.Env := [(44, ratio_Of_S), (54, Cp_offs_S), (75, Cp_net_S), (76, Cp_bound_1_S), (79, ratio_Cmp_S), (80, ratio_Floor_S)]
noncomputable def Cp_bound_C : Code := (Try.f66.body).getD .skip
noncomputable def Cp_bound_A (Kv : VW) : Pw.A :=
  (A.seq (A.reg (Pw.rn 4 RA.done))
   (A.seq (A.reg (Pw.rn 2 RA.done))
   (A.seq (A.reg (Pw.rn 2 RA.done))
   (A.seq (A.reg (Pw.rn 3 RA.done))
   (A.seq (A.drw (DA.pur 0 (DA.pur 2 (DA.pur 3 (DA.pur 4 (DA.pur 5 (DA.two 1 (DA.two 6 (DA.two 7 (DA.eff 8 (DA.eff 9 DA.done)) 8 (DA.eff 7 (DA.eff 9 DA.done))) 8 (DA.eff 6 (DA.eff 7 (DA.eff 9 DA.done)))) 8 (DA.eff 1 (DA.eff 6 (DA.eff 7 (DA.eff 9 DA.done)))))))))))
   (A.cut [2, 3, 6, 7, 8, 9] (Cp_bound_P0 Kv) (A.seq (A.seq (A.reg (Pw.rn 5 RA.done))
   (A.blk (A.loop [2, 3, 6, 7, 8, 9, 30, 31, 32] (Cp_bound_P1 Kv) (A.seq (A.reg (RA.run RA.done))
   (A.seq (A.cond A.leaf
   A.leaf)
   (A.seq (A.blk (A.seq (A.reg (Pw.rn 5 RA.done))
   (A.seq (A.reg (Pw.rn 3 RA.done))
   (A.seq (A.seq (A.reg (Pw.rn 5 RA.done))
   (A.blk (A.loop [2, 3, 6, 7, 8, 9, 10, 11, 12, 30, 31, 32, 40, 41, 42] (Cp_bound_P2 Kv) (A.seq (A.reg (RA.run RA.done))
   (A.seq (A.cond A.leaf
   A.leaf)
   (A.seq (A.blk (A.seq (A.reg (Pw.rn 6 RA.done))
   (A.seq (A.reg (Pw.rn 6 RA.done))
   (A.seq (A.seq (A.reg (Pw.rn 5 (RA.spl 56 (Pw.sk 10 (RA.run RA.done)) (Pw.rn 2 (RA.spl 58 (Pw.rn 9 RA.done) (Pw.sk 7 (Pw.rn 2 RA.done)))))))
   (A.cond A.leaf
   A.leaf))
   (A.cut [2, 3, 6, 7, 8, 9, 10, 11, 12, 14, 15, 30, 31, 32, 40, 41, 42] (Cp_bound_P3 Kv) (A.seq (A.drw (DA.pur 0 (DA.pur 1 (DA.pur 2 (DA.pur 5 (DA.pur 6 (DA.pur 7 (DA.pur 8 (DA.two 3 (DA.two 4 (DA.two 9 (DA.two 10 (DA.eff 11 (DA.eff 12 DA.done)) 11 (DA.eff 10 (DA.eff 12 DA.done))) 11 (DA.eff 9 (DA.eff 10 (DA.eff 12 DA.done)))) 11 (DA.eff 4 (DA.eff 9 (DA.eff 10 (DA.eff 12 DA.done))))) 11 (DA.eff 3 (DA.eff 4 (DA.eff 9 (DA.eff 10 (DA.eff 12 DA.done))))))))))))))
   (A.cut [2, 3, 6, 7, 8, 9, 10, 11, 12, 15, 16, 30, 31, 32, 40, 41, 42] (Cp_bound_P4 Kv) (A.seq (A.reg (Pw.rn 2 (RA.spl 80 (Pw.sk 4 (RA.run RA.done)) (Pw.rn 5 RA.done))))
   (A.cond (A.cut [2, 3, 6, 7, 8, 9, 10, 11, 12, 16, 30, 31, 32, 40, 41, 42] (Cp_bound_P5 Kv) (A.reg (Pw.rn 2 RA.done)))
   A.leaf)))))))))
   (A.reg (Pw.rn 2 RA.done))))))))
   (A.reg (Pw.rn 6 RA.done))))))
   (A.reg (Pw.rn 2 RA.done))))))))
   (A.seq (A.reg (Pw.rn 7 RA.done))
   (A.seq (A.drw (DA.pur 0 (DA.pur 1 (DA.pur 2 (DA.pur 3 (DA.eff 4 (DA.eff 5 (DA.eff 6 (DA.eff 7 DA.done)))))))))
   (A.seq (A.drw (DA.pur 0 (DA.pur 2 (DA.eff 1 (DA.pur 3 (DA.pur 4 DA.done))))))
   A.leaf))))))))))
noncomputable def Cp_bound_O (Kv : VW) : List Ob := (obs Try.prog Cp_bound_E 109 (Cp_bound_A Kv) Cp_bound_C (fun _ => retQ Try.prog Try.f66.results Kv))
theorem Cp_bound_e (Kv : VW) (f_0_0p : Option Addr) (f_0_0l f_0_0c : Nat) (f_0_1p : Option Addr) (f_0_1l f_0_1c : Nat) (f_0_2p : Option Addr) (f_0_2l f_0_2c : Nat) (f_0_3 f_0_4 : Int) (f_0_5p : Option Addr) (f_0_5l f_0_5c : Nat) (dual_1_0 dual_1_1 : Int) (w : World) : Cp_bound_sd ⟨f_0_0p, f_0_0l, f_0_0c⟩ ⟨f_0_1p, f_0_1l, f_0_1c⟩ ⟨f_0_2p, f_0_2l, f_0_2c⟩ f_0_3 f_0_4 ⟨f_0_5p, f_0_5l, f_0_5c⟩ dual_1_0 dual_1_1 (fun r0 r1 w' => Kv (Value.tuple #[(Value.int .i64 r0), (Value.bool r1)]) w') w = W Try.prog Cp_bound_E 109 (Cp_bound_A Kv) Cp_bound_C [] (retQ Try.prog Try.f66.results Kv) [] (startS [(Value.agg #[(Value.slice f_0_0p f_0_0l f_0_0c), (Value.slice f_0_1p f_0_1l f_0_1c), (Value.slice f_0_2p f_0_2l f_0_2c), (Value.int .i64 f_0_3), (Value.int .i64 f_0_4), (Value.slice f_0_5p f_0_5l f_0_5c)]), (Value.agg #[(Value.int .i64 dual_1_0), (Value.int .i64 dual_1_1)])]) w := by kernel_rfl
theorem Cp_bound_e0 (Kv : VW) (ρ : Rho) (f_2 dual_3 : Addr) (fine_6 add_7_c0 : Addr) (one_8 sum_9 : Addr) (w : World) : Cp_bound_k0d f_2 dual_3 fine_6 add_7_c0 one_8 sum_9 (fun r0 r1 w' => Kv (Value.tuple #[(Value.int .i64 r0), (Value.bool r1)]) w') w = goalAt Try.prog Cp_bound_E 109 (Cp_bound_O Kv) 0 (ρ) [(Value.pointer (some f_2)), (Value.pointer (some dual_3)), (Value.pointer (some fine_6)), (Value.func (.func 76) #[] #[(Value.pointer (some add_7_c0))]), (Value.pointer (some one_8)), (Value.pointer (some sum_9))] w := by kernel_rfl
theorem Cp_bound_q0 (Kv : VW) (ρ : Rho) (vs : List Value) (w : World) : labAt (Cp_bound_O Kv) 0 ρ vs w = Cp_bound_P0 Kv ρ vs w := by kernel_rfl
theorem Cp_bound_h0 (Kv : VW) : holdsAt Try.prog Cp_bound_E 109 (Cp_bound_O Kv) 0 := holdsAt_cut (.inl (by kernel_rfl)) (fun ρ vs w h => by
  rw [Cp_bound_q0] at h
  unfold Cp_bound_P0 at h
  split at h
  · rw [← Cp_bound_e0]; exact h.out
  · exact h.elim)
theorem Cp_bound_e1 (Kv : VW) (N1 : List Value -> World -> Prop) (ρ : Rho) (f_2 dual_3 : Addr) (fine_6 add_7_c0 : Addr) (one_8 sum_9 : Addr) (t_30p : Option Addr) (t_30l t_30c : Nat) (t_31 t_32 : Int) (w : World) : Cp_bound_b1 f_2 dual_3 fine_6 add_7_c0 one_8 sum_9 ⟨t_30p, t_30l, t_30c⟩ t_31 t_32 (fun f_2' dual_3' fine_6' add_7_c0' one_8' sum_9' t_30' t_31' t_32' w' => N1 [(Value.pointer (some f_2')), (Value.pointer (some dual_3')), (Value.pointer (some fine_6')), (Value.func (.func 76) #[] #[(Value.pointer (some add_7_c0'))]), (Value.pointer (some one_8')), (Value.pointer (some sum_9')), (Value.slice t_30'.p t_30'.l t_30'.c), (Value.int .i64 t_31'), (Value.int .i64 t_32')] w') (fun r0 r1 w' => Kv (Value.tuple #[(Value.int .i64 r0), (Value.bool r1)]) w') w = goalAt Try.prog Cp_bound_E 109 (Cp_bound_O Kv) 1 (N1 :: ρ) [(Value.pointer (some f_2)), (Value.pointer (some dual_3)), (Value.pointer (some fine_6)), (Value.func (.func 76) #[] #[(Value.pointer (some add_7_c0))]), (Value.pointer (some one_8)), (Value.pointer (some sum_9)), (Value.slice t_30p t_30l t_30c), (Value.int .i64 t_31), (Value.int .i64 t_32)] w := by kernel_rfl
theorem Cp_bound_q1 (Kv : VW) (ρ : Rho) (vs : List Value) (w : World) : labAt (Cp_bound_O Kv) 1 ρ vs w = Cp_bound_P1 Kv ρ vs w := by kernel_rfl
def Cp_bound_I1 (f_20 dual_30 : Addr) (fine_60 add_7_c00 : Addr) (one_80 sum_90 : Addr) (t_300 : Sl) (t_310 : Int) (I : Int -> World -> Prop) (vs : List Value) (w : World) : Prop :=
  match vs with
  | [.pointer (some f_2), .pointer (some dual_3), .pointer (some fine_6), .func (.func 76) ⟨[]⟩ ⟨[.pointer (some add_7_c0)]⟩, .pointer (some one_8), .pointer (some sum_9), .slice t_30p t_30l t_30c, .int .i64 t_31, .int .i64 t_32] => (f_2 = f_20 /\ dual_3 = dual_30 /\ fine_6 = fine_60 /\ add_7_c0 = add_7_c00 /\ one_8 = one_80 /\ sum_9 = sum_90 /\ ⟨t_30p, t_30l, t_30c⟩ = t_300 /\ t_31 = t_310 /\ True) /\ I t_32 w
  | _ => False
def Cp_bound_M1 (μ : Int -> World -> Nat) (vs : List Value) (w : World) : Nat :=
  match vs with
  | [.pointer (some _f_2), .pointer (some _dual_3), .pointer (some _fine_6), .func (.func 76) ⟨[]⟩ ⟨[.pointer (some _add_7_c0)]⟩, .pointer (some _one_8), .pointer (some _sum_9), .slice _t_30p _t_30l _t_30c, .int .i64 _t_31, .int .i64 t_32] => μ t_32 w
  | _ => 0
theorem Cp_bound_h1 (Kv : VW) : holdsAt Try.prog Cp_bound_E 109 (Cp_bound_O Kv) 1 := holdsAt_loop (by kernel_rfl) (fun ρ vs w h => by
  rw [Cp_bound_q1] at h
  unfold Cp_bound_P1 at h
  split at h
  · rename_i ρt f_2 dual_3 fine_6 add_7_c0 one_8 sum_9 t_30p t_30l t_30c t_31 t_32
    obtain ⟨I, μ, h0, hr⟩ := h.out
    refine ⟨Cp_bound_I1 f_2 dual_3 fine_6 add_7_c0 one_8 sum_9 ⟨t_30p, t_30l, t_30c⟩ t_31 I, Cp_bound_M1 μ, ⟨⟨rfl, rfl, rfl, rfl, rfl, rfl, rfl, rfl, trivial⟩, h0⟩, fun vs w hI => ?_⟩
    unfold Cp_bound_I1 at hI
    split at hI
    · obtain ⟨⟨h0, h1, h2, h3, h4, h5, h6, h7, _⟩, hI⟩ := hI
      cases h0; cases h1; cases h2; cases h3; cases h4; cases h5; cases h6; cases h7
      rw [← Cp_bound_e1]
      exact hr _ _ hI
    · exact hI.elim
  · exact h.elim)
theorem Cp_bound_e2 (Kv : VW) (N2 N1 : List Value -> World -> Prop) (ρ : Rho) (f_2 dual_3 : Addr) (fine_6 add_7_c0 : Addr) (one_8 sum_9 : Addr) (i_10 lot_11 : Int) (best_12 : Addr) (t_30p : Option Addr) (t_30l t_30c : Nat) (t_31 t_32 : Int) (t_40p : Option Addr) (t_40l t_40c : Nat) (t_41 t_42 : Int) (w : World) : Cp_bound_b2 f_2 dual_3 fine_6 add_7_c0 one_8 sum_9 i_10 lot_11 best_12 ⟨t_30p, t_30l, t_30c⟩ t_31 t_32 ⟨t_40p, t_40l, t_40c⟩ t_41 t_42 (fun f_2' dual_3' fine_6' add_7_c0' one_8' sum_9' i_10' lot_11' best_12' t_30' t_31' t_32' t_40' t_41' t_42' w' => N2 [(Value.pointer (some f_2')), (Value.pointer (some dual_3')), (Value.pointer (some fine_6')), (Value.func (.func 76) #[] #[(Value.pointer (some add_7_c0'))]), (Value.pointer (some one_8')), (Value.pointer (some sum_9')), (Value.int .i64 i_10'), (Value.int .i64 lot_11'), (Value.pointer (some best_12')), (Value.slice t_30'.p t_30'.l t_30'.c), (Value.int .i64 t_31'), (Value.int .i64 t_32'), (Value.slice t_40'.p t_40'.l t_40'.c), (Value.int .i64 t_41'), (Value.int .i64 t_42')] w') (fun f_2' dual_3' fine_6' add_7_c0' one_8' sum_9' t_30' t_31' t_32' w' => N1 [(Value.pointer (some f_2')), (Value.pointer (some dual_3')), (Value.pointer (some fine_6')), (Value.func (.func 76) #[] #[(Value.pointer (some add_7_c0'))]), (Value.pointer (some one_8')), (Value.pointer (some sum_9')), (Value.slice t_30'.p t_30'.l t_30'.c), (Value.int .i64 t_31'), (Value.int .i64 t_32')] w') (fun r0 r1 w' => Kv (Value.tuple #[(Value.int .i64 r0), (Value.bool r1)]) w') w = goalAt Try.prog Cp_bound_E 109 (Cp_bound_O Kv) 2 (N2 :: N1 :: ρ) [(Value.pointer (some f_2)), (Value.pointer (some dual_3)), (Value.pointer (some fine_6)), (Value.func (.func 76) #[] #[(Value.pointer (some add_7_c0))]), (Value.pointer (some one_8)), (Value.pointer (some sum_9)), (Value.int .i64 i_10), (Value.int .i64 lot_11), (Value.pointer (some best_12)), (Value.slice t_30p t_30l t_30c), (Value.int .i64 t_31), (Value.int .i64 t_32), (Value.slice t_40p t_40l t_40c), (Value.int .i64 t_41), (Value.int .i64 t_42)] w := by kernel_rfl
theorem Cp_bound_q2 (Kv : VW) (ρ : Rho) (vs : List Value) (w : World) : labAt (Cp_bound_O Kv) 2 ρ vs w = Cp_bound_P2 Kv ρ vs w := by kernel_rfl
def Cp_bound_I2 (f_20 dual_30 : Addr) (fine_60 add_7_c00 : Addr) (one_80 sum_90 : Addr) (i_100 lot_110 : Int) (best_120 : Addr) (t_300 : Sl) (t_310 t_320 : Int) (t_400 : Sl) (t_410 : Int) (I : Int -> World -> Prop) (vs : List Value) (w : World) : Prop :=
  match vs with
  | [.pointer (some f_2), .pointer (some dual_3), .pointer (some fine_6), .func (.func 76) ⟨[]⟩ ⟨[.pointer (some add_7_c0)]⟩, .pointer (some one_8), .pointer (some sum_9), .int .i64 i_10, .int .i64 lot_11, .pointer (some best_12), .slice t_30p t_30l t_30c, .int .i64 t_31, .int .i64 t_32, .slice t_40p t_40l t_40c, .int .i64 t_41, .int .i64 t_42] => (f_2 = f_20 /\ dual_3 = dual_30 /\ fine_6 = fine_60 /\ add_7_c0 = add_7_c00 /\ one_8 = one_80 /\ sum_9 = sum_90 /\ i_10 = i_100 /\ lot_11 = lot_110 /\ best_12 = best_120 /\ ⟨t_30p, t_30l, t_30c⟩ = t_300 /\ t_31 = t_310 /\ t_32 = t_320 /\ ⟨t_40p, t_40l, t_40c⟩ = t_400 /\ t_41 = t_410 /\ True) /\ I t_42 w
  | _ => False
def Cp_bound_M2 (μ : Int -> World -> Nat) (vs : List Value) (w : World) : Nat :=
  match vs with
  | [.pointer (some _f_2), .pointer (some _dual_3), .pointer (some _fine_6), .func (.func 76) ⟨[]⟩ ⟨[.pointer (some _add_7_c0)]⟩, .pointer (some _one_8), .pointer (some _sum_9), .int .i64 _i_10, .int .i64 _lot_11, .pointer (some _best_12), .slice _t_30p _t_30l _t_30c, .int .i64 _t_31, .int .i64 _t_32, .slice _t_40p _t_40l _t_40c, .int .i64 _t_41, .int .i64 t_42] => μ t_42 w
  | _ => 0
theorem Cp_bound_h2 (Kv : VW) : holdsAt Try.prog Cp_bound_E 109 (Cp_bound_O Kv) 2 := holdsAt_loop (by kernel_rfl) (fun ρ vs w h => by
  rw [Cp_bound_q2] at h
  unfold Cp_bound_P2 at h
  split at h
  · rename_i N1 ρt f_2 dual_3 fine_6 add_7_c0 one_8 sum_9 i_10 lot_11 best_12 t_30p t_30l t_30c t_31 t_32 t_40p t_40l t_40c t_41 t_42
    obtain ⟨I, μ, h0, hr⟩ := h.out
    refine ⟨Cp_bound_I2 f_2 dual_3 fine_6 add_7_c0 one_8 sum_9 i_10 lot_11 best_12 ⟨t_30p, t_30l, t_30c⟩ t_31 t_32 ⟨t_40p, t_40l, t_40c⟩ t_41 I, Cp_bound_M2 μ, ⟨⟨rfl, rfl, rfl, rfl, rfl, rfl, rfl, rfl, rfl, rfl, rfl, rfl, rfl, rfl, trivial⟩, h0⟩, fun vs w hI => ?_⟩
    unfold Cp_bound_I2 at hI
    split at hI
    · obtain ⟨⟨h0, h1, h2, h3, h4, h5, h6, h7, h8, h9, h10, h11, h12, h13, _⟩, hI⟩ := hI
      cases h0; cases h1; cases h2; cases h3; cases h4; cases h5; cases h6; cases h7; cases h8; cases h9; cases h10; cases h11; cases h12; cases h13
      rw [← Cp_bound_e2]
      exact hr _ _ hI
    · exact hI.elim
  · exact h.elim)
theorem Cp_bound_e3 (Kv : VW) (N2 N1 : List Value -> World -> Prop) (ρ : Rho) (f_2 dual_3 : Addr) (fine_6 add_7_c0 : Addr) (one_8 sum_9 : Addr) (i_10 lot_11 : Int) (best_12 c_14 : Addr) (decided_15 : Bool) (t_30p : Option Addr) (t_30l t_30c : Nat) (t_31 t_32 : Int) (t_40p : Option Addr) (t_40l t_40c : Nat) (t_41 t_42 : Int) (w : World) : Cp_bound_k3d f_2 dual_3 fine_6 add_7_c0 one_8 sum_9 i_10 lot_11 best_12 c_14 decided_15 ⟨t_30p, t_30l, t_30c⟩ t_31 t_32 ⟨t_40p, t_40l, t_40c⟩ t_41 t_42 (fun f_2' dual_3' fine_6' add_7_c0' one_8' sum_9' i_10' lot_11' best_12' t_30' t_31' t_32' t_40' t_41' t_42' w' => N2 [(Value.pointer (some f_2')), (Value.pointer (some dual_3')), (Value.pointer (some fine_6')), (Value.func (.func 76) #[] #[(Value.pointer (some add_7_c0'))]), (Value.pointer (some one_8')), (Value.pointer (some sum_9')), (Value.int .i64 i_10'), (Value.int .i64 lot_11'), (Value.pointer (some best_12')), (Value.slice t_30'.p t_30'.l t_30'.c), (Value.int .i64 t_31'), (Value.int .i64 t_32'), (Value.slice t_40'.p t_40'.l t_40'.c), (Value.int .i64 t_41'), (Value.int .i64 t_42')] w') (fun f_2' dual_3' fine_6' add_7_c0' one_8' sum_9' t_30' t_31' t_32' w' => N1 [(Value.pointer (some f_2')), (Value.pointer (some dual_3')), (Value.pointer (some fine_6')), (Value.func (.func 76) #[] #[(Value.pointer (some add_7_c0'))]), (Value.pointer (some one_8')), (Value.pointer (some sum_9')), (Value.slice t_30'.p t_30'.l t_30'.c), (Value.int .i64 t_31'), (Value.int .i64 t_32')] w') (fun r0 r1 w' => Kv (Value.tuple #[(Value.int .i64 r0), (Value.bool r1)]) w') w = goalAt Try.prog Cp_bound_E 109 (Cp_bound_O Kv) 3 (N2 :: N1 :: ρ) [(Value.pointer (some f_2)), (Value.pointer (some dual_3)), (Value.pointer (some fine_6)), (Value.func (.func 76) #[] #[(Value.pointer (some add_7_c0))]), (Value.pointer (some one_8)), (Value.pointer (some sum_9)), (Value.int .i64 i_10), (Value.int .i64 lot_11), (Value.pointer (some best_12)), (Value.pointer (some c_14)), (Value.bool decided_15), (Value.slice t_30p t_30l t_30c), (Value.int .i64 t_31), (Value.int .i64 t_32), (Value.slice t_40p t_40l t_40c), (Value.int .i64 t_41), (Value.int .i64 t_42)] w := by kernel_rfl
theorem Cp_bound_q3 (Kv : VW) (ρ : Rho) (vs : List Value) (w : World) : labAt (Cp_bound_O Kv) 3 ρ vs w = Cp_bound_P3 Kv ρ vs w := by kernel_rfl
theorem Cp_bound_h3 (Kv : VW) : holdsAt Try.prog Cp_bound_E 109 (Cp_bound_O Kv) 3 := holdsAt_cut (.inl (by kernel_rfl)) (fun ρ vs w h => by
  rw [Cp_bound_q3] at h
  unfold Cp_bound_P3 at h
  split at h
  · rw [← Cp_bound_e3]; exact h.out
  · exact h.elim)
theorem Cp_bound_e4 (Kv : VW) (N2 N1 : List Value -> World -> Prop) (ρ : Rho) (f_2 dual_3 : Addr) (fine_6 add_7_c0 : Addr) (one_8 sum_9 : Addr) (i_10 lot_11 : Int) (best_12 : Addr) (decided_15 : Bool) (x_16 : Addr) (t_30p : Option Addr) (t_30l t_30c : Nat) (t_31 t_32 : Int) (t_40p : Option Addr) (t_40l t_40c : Nat) (t_41 t_42 : Int) (w : World) : Cp_bound_k4d f_2 dual_3 fine_6 add_7_c0 one_8 sum_9 i_10 lot_11 best_12 decided_15 x_16 ⟨t_30p, t_30l, t_30c⟩ t_31 t_32 ⟨t_40p, t_40l, t_40c⟩ t_41 t_42 (fun f_2' dual_3' fine_6' add_7_c0' one_8' sum_9' i_10' lot_11' best_12' t_30' t_31' t_32' t_40' t_41' t_42' w' => N2 [(Value.pointer (some f_2')), (Value.pointer (some dual_3')), (Value.pointer (some fine_6')), (Value.func (.func 76) #[] #[(Value.pointer (some add_7_c0'))]), (Value.pointer (some one_8')), (Value.pointer (some sum_9')), (Value.int .i64 i_10'), (Value.int .i64 lot_11'), (Value.pointer (some best_12')), (Value.slice t_30'.p t_30'.l t_30'.c), (Value.int .i64 t_31'), (Value.int .i64 t_32'), (Value.slice t_40'.p t_40'.l t_40'.c), (Value.int .i64 t_41'), (Value.int .i64 t_42')] w') (fun f_2' dual_3' fine_6' add_7_c0' one_8' sum_9' t_30' t_31' t_32' w' => N1 [(Value.pointer (some f_2')), (Value.pointer (some dual_3')), (Value.pointer (some fine_6')), (Value.func (.func 76) #[] #[(Value.pointer (some add_7_c0'))]), (Value.pointer (some one_8')), (Value.pointer (some sum_9')), (Value.slice t_30'.p t_30'.l t_30'.c), (Value.int .i64 t_31'), (Value.int .i64 t_32')] w') (fun r0 r1 w' => Kv (Value.tuple #[(Value.int .i64 r0), (Value.bool r1)]) w') w = goalAt Try.prog Cp_bound_E 109 (Cp_bound_O Kv) 4 (N2 :: N1 :: ρ) [(Value.pointer (some f_2)), (Value.pointer (some dual_3)), (Value.pointer (some fine_6)), (Value.func (.func 76) #[] #[(Value.pointer (some add_7_c0))]), (Value.pointer (some one_8)), (Value.pointer (some sum_9)), (Value.int .i64 i_10), (Value.int .i64 lot_11), (Value.pointer (some best_12)), (Value.bool decided_15), (Value.pointer (some x_16)), (Value.slice t_30p t_30l t_30c), (Value.int .i64 t_31), (Value.int .i64 t_32), (Value.slice t_40p t_40l t_40c), (Value.int .i64 t_41), (Value.int .i64 t_42)] w := by kernel_rfl
theorem Cp_bound_q4 (Kv : VW) (ρ : Rho) (vs : List Value) (w : World) : labAt (Cp_bound_O Kv) 4 ρ vs w = Cp_bound_P4 Kv ρ vs w := by kernel_rfl
theorem Cp_bound_h4 (Kv : VW) : holdsAt Try.prog Cp_bound_E 109 (Cp_bound_O Kv) 4 := holdsAt_cut (.inl (by kernel_rfl)) (fun ρ vs w h => by
  rw [Cp_bound_q4] at h
  unfold Cp_bound_P4 at h
  split at h
  · rw [← Cp_bound_e4]; exact h.out
  · exact h.elim)
theorem Cp_bound_e5 (Kv : VW) (N2 N1 : List Value -> World -> Prop) (ρ : Rho) (f_2 dual_3 : Addr) (fine_6 add_7_c0 : Addr) (one_8 sum_9 : Addr) (i_10 lot_11 : Int) (best_12 x_16 : Addr) (t_30p : Option Addr) (t_30l t_30c : Nat) (t_31 t_32 : Int) (t_40p : Option Addr) (t_40l t_40c : Nat) (t_41 t_42 : Int) (w : World) : Cp_bound_k5d f_2 dual_3 fine_6 add_7_c0 one_8 sum_9 i_10 lot_11 best_12 x_16 ⟨t_30p, t_30l, t_30c⟩ t_31 t_32 ⟨t_40p, t_40l, t_40c⟩ t_41 t_42 (fun f_2' dual_3' fine_6' add_7_c0' one_8' sum_9' i_10' lot_11' best_12' t_30' t_31' t_32' t_40' t_41' t_42' w' => N2 [(Value.pointer (some f_2')), (Value.pointer (some dual_3')), (Value.pointer (some fine_6')), (Value.func (.func 76) #[] #[(Value.pointer (some add_7_c0'))]), (Value.pointer (some one_8')), (Value.pointer (some sum_9')), (Value.int .i64 i_10'), (Value.int .i64 lot_11'), (Value.pointer (some best_12')), (Value.slice t_30'.p t_30'.l t_30'.c), (Value.int .i64 t_31'), (Value.int .i64 t_32'), (Value.slice t_40'.p t_40'.l t_40'.c), (Value.int .i64 t_41'), (Value.int .i64 t_42')] w') (fun f_2' dual_3' fine_6' add_7_c0' one_8' sum_9' t_30' t_31' t_32' w' => N1 [(Value.pointer (some f_2')), (Value.pointer (some dual_3')), (Value.pointer (some fine_6')), (Value.func (.func 76) #[] #[(Value.pointer (some add_7_c0'))]), (Value.pointer (some one_8')), (Value.pointer (some sum_9')), (Value.slice t_30'.p t_30'.l t_30'.c), (Value.int .i64 t_31'), (Value.int .i64 t_32')] w') (fun r0 r1 w' => Kv (Value.tuple #[(Value.int .i64 r0), (Value.bool r1)]) w') w = goalAt Try.prog Cp_bound_E 109 (Cp_bound_O Kv) 5 (N2 :: N1 :: ρ) [(Value.pointer (some f_2)), (Value.pointer (some dual_3)), (Value.pointer (some fine_6)), (Value.func (.func 76) #[] #[(Value.pointer (some add_7_c0))]), (Value.pointer (some one_8)), (Value.pointer (some sum_9)), (Value.int .i64 i_10), (Value.int .i64 lot_11), (Value.pointer (some best_12)), (Value.pointer (some x_16)), (Value.slice t_30p t_30l t_30c), (Value.int .i64 t_31), (Value.int .i64 t_32), (Value.slice t_40p t_40l t_40c), (Value.int .i64 t_41), (Value.int .i64 t_42)] w := by kernel_rfl
theorem Cp_bound_q5 (Kv : VW) (ρ : Rho) (vs : List Value) (w : World) : labAt (Cp_bound_O Kv) 5 ρ vs w = Cp_bound_P5 Kv ρ vs w := by kernel_rfl
theorem Cp_bound_h5 (Kv : VW) : holdsAt Try.prog Cp_bound_E 109 (Cp_bound_O Kv) 5 := holdsAt_cut (.inl (by kernel_rfl)) (fun ρ vs w h => by
  rw [Cp_bound_q5] at h
  unfold Cp_bound_P5 at h
  split at h
  · rw [← Cp_bound_e5]; exact h.out
  · exact h.elim)
theorem Cp_bound_n (Kv : VW) : obAt (Cp_bound_O Kv) 6 = none := by kernel_rfl
theorem Cp_bound_h (Kv : VW) : ∀ k, holdsAt Try.prog Cp_bound_E 109 (Cp_bound_O Kv) k := fun k => match k with
  | 0 => Cp_bound_h0 Kv
  | 1 => Cp_bound_h1 Kv
  | 2 => Cp_bound_h2 Kv
  | 3 => Cp_bound_h3 Kv
  | 4 => Cp_bound_h4 Kv
  | 5 => Cp_bound_h5 Kv
  | _k + 6 => holdsAt_ge (Cp_bound_n Kv) (Nat.le_add_left _ _)
theorem Cp_bound_ok : Sound Try.prog 66 Cp_bound_S := ⟨Try.call66, fun vs w Kv h => by
  unfold Cp_bound_S at h
  split at h
  · have h := h.out
    rw [Cp_bound_e] at h
    exact calls_sound (Γ := Cp_bound_E) progMixed ⟨.inl ratio_Of_ok, .inl Cp_offs_ok, .inl Cp_net_ok, .inl Cp_bound_1_ok, .inl ratio_Cmp_ok, .inl ratio_Floor_ok, trivial⟩ Try.func66 (code := Cp_bound_C) (by kernel_rfl) (Cp_bound_A Kv) Kv (holds_all (Cp_bound_h Kv)) (Nat.le_of_ble_eq_true (by kernel_rfl)) h
  · exact h.elim⟩
/-! Cp_points -/
def Cp_points_b0 (sum_3 : Int) (t_7 : Sl) (t_8 t_9 : Int) (N0 : Int -> Sl -> Int -> Int -> World -> Prop) (K : Int -> World -> Prop) (w : World) : Prop :=
  cnd (decide (t_9 < t_8))
    (nz t_7.p fun a10 => (0 <= t_9 /\ t_9 < (t_7.l : Nat)) /\ ∃ x11 : Int, w.cell? (a10.add (t_9.toNat * 4)) = some (Value.int .i64 x11) /\ ∃ x12 : Int, w.cell? ((a10.add (t_9.toNat * 4)).add 1) = some (Value.int .i64 x12) /\ ∃ x13 : Int, w.cell? ((a10.add (t_9.toNat * 4)).add 2) = some (Value.int .i64 x13) /\ ∃ x14 : Int, w.cell? ((a10.add (t_9.toNat * 4)).add 3) = some (Value.int .i64 x14) /\ let w15 := w.alloc (Obj.cells #[(Value.int .i64 0), (Value.int .i64 0), (Value.int .i64 0), (Value.int .i64 0)] 56)
  stN w15 (Addr.mk w.heap.size 0 none) [(Value.int .i64 x11), (Value.int .i64 x12), (Value.int .i64 x13), (Value.int .i64 x14)] fun w16 => ∃ x17 : Int, w16.cell? (Addr.mk w.heap.size 3 none) = some (Value.int .i64 x17) /\ inR .i64 (sum_3 + x17) /\ inR .i64 (t_9 + (1 : Int)) /\ N0 (sum_3 + x17) t_7 t_8 (t_9 + (1 : Int)) w16)
    (K sum_3 w)
def Cp_points_l0d (sum_3 : Int) (t_7 : Sl) (t_8 t_9 : Int) (K : Int -> World -> Prop) (w : World) : Prop :=
  ∃ (I : Int -> Int -> World -> Prop) (μ : Int -> Int -> World -> Nat), I sum_3 t_9 w /\ ∀ (sum_31 t_91 : Int) (w1 : World), I sum_31 t_91 w1 ->
    Cp_points_b0 sum_31 t_7 t_8 t_91 (fun sum_3' t_7' t_8' t_9' w' => ((t_7' = t_7 /\ t_8' = t_8 /\ True) /\ I sum_3' t_9' w') /\ μ sum_3' t_9' w' < μ sum_31 t_91 w1) K w1
structure Cp_points_l0 (sum_3 : Int) (t_7 : Sl) (t_8 t_9 : Int) (K : Int -> World -> Prop) (w : World) : Prop where
  out : Cp_points_l0d sum_3 t_7 t_8 t_9 K w
def Cp_points_sd (f_0_0 f_0_1 f_0_2 : Sl) (f_0_3 f_0_4 : Int) (f_0_5 : Sl) (K : Int -> World -> Prop) (w : World) : Prop :=
  let w1 := w.alloc (Obj.cells #[(Value.slice f_0_0.p f_0_0.l f_0_0.c), (Value.slice f_0_1.p f_0_1.l f_0_1.c), (Value.slice f_0_2.p f_0_2.l f_0_2.c), (Value.int .i64 f_0_3), (Value.int .i64 f_0_4), (Value.slice f_0_5.p f_0_5.l f_0_5.c)] 65)
  ∃ x2 : Sl, w1.cell? (Addr.mk w.heap.size 0 none) = some (Value.slice x2.p x2.l x2.c) /\ ∃ x3 : Sl, w1.cell? (Addr.mk w.heap.size 1 none) = some (Value.slice x3.p x3.l x3.c) /\ ∃ x4 : Sl, w1.cell? (Addr.mk w.heap.size 2 none) = some (Value.slice x4.p x4.l x4.c) /\ ∃ x5 : Int, w1.cell? (Addr.mk w.heap.size 3 none) = some (Value.int .i64 x5) /\ ∃ x6 : Int, w1.cell? (Addr.mk w.heap.size 4 none) = some (Value.int .i64 x6) /\ ∃ x7 : Sl, w1.cell? (Addr.mk w.heap.size 5 none) = some (Value.slice x7.p x7.l x7.c) /\ Cp_taken_sh x2 x3 x4 x5 x6 x7 (fun r9 w8 => Cp_points_l0 (0 : Int) r9 (r9.l : Int) (0 : Int) K w8) w1
structure Cp_points_sh (f_0_0 f_0_1 f_0_2 : Sl) (f_0_3 f_0_4 : Int) (f_0_5 : Sl) (K : Int -> World -> Prop) (w : World) : Prop where
  out : Cp_points_sd f_0_0 f_0_1 f_0_2 f_0_3 f_0_4 f_0_5 K w
def Cp_points_P0 (Kv : VW) (ρ : Rho) (vs : List Value) (w : World) : Prop :=
  match ρ, vs with
  | _, [.int .i64 sum_3, .slice t_7p t_7l t_7c, .int .i64 t_8, .int .i64 t_9] => Cp_points_l0 sum_3 ⟨t_7p, t_7l, t_7c⟩ t_8 t_9 (fun r0 w' => Kv (Value.int .i64 r0) w') w
  | _, _ => False
noncomputable def Cp_points_S : Pw.Spec := fun vs w Kv =>
  match vs with
  | [.agg ⟨[.slice f_0_0p f_0_0l f_0_0c, .slice f_0_1p f_0_1l f_0_1c, .slice f_0_2p f_0_2l f_0_2c, .int .i64 f_0_3, .int .i64 f_0_4, .slice f_0_5p f_0_5l f_0_5c]⟩] => Cp_points_sh ⟨f_0_0p, f_0_0l, f_0_0c⟩ ⟨f_0_1p, f_0_1l, f_0_1c⟩ ⟨f_0_2p, f_0_2l, f_0_2c⟩ f_0_3 f_0_4 ⟨f_0_5p, f_0_5l, f_0_5c⟩ (fun r0 w' => Kv (Value.int .i64 r0) w') w
  | _ => False
noncomputable def Cp_points_E : Pw.Env := [(48, Cp_taken_S)]
noncomputable def Cp_points_C : Code := (Try.f24.body).getD .skip
noncomputable def Cp_points_A (Kv : VW) : Pw.A :=
  (A.seq (A.reg (Pw.rn 2 RA.done))
   (A.seq (A.reg (RA.run RA.done))
   (A.seq (A.seq (A.reg (Pw.rn 4 RA.done))
   (A.blk (A.loop [3, 7, 8, 9] (Cp_points_P0 Kv) (A.seq (A.reg (RA.run RA.done))
   (A.seq (A.cond A.leaf
   A.leaf)
   (A.seq (A.blk (A.seq (A.reg (Pw.rn 4 RA.done))
   (A.reg (Pw.rn 5 RA.done))))
   (A.reg (Pw.rn 2 RA.done))))))))
   (A.seq (A.reg (Pw.rn 2 RA.done))
   A.leaf))))
noncomputable def Cp_points_O (Kv : VW) : List Ob := (obs Try.prog Cp_points_E 19 (Cp_points_A Kv) Cp_points_C (fun _ => retQ Try.prog Try.f24.results Kv))
theorem Cp_points_e (Kv : VW) (f_0_0p : Option Addr) (f_0_0l f_0_0c : Nat) (f_0_1p : Option Addr) (f_0_1l f_0_1c : Nat) (f_0_2p : Option Addr) (f_0_2l f_0_2c : Nat) (f_0_3 f_0_4 : Int) (f_0_5p : Option Addr) (f_0_5l f_0_5c : Nat) (w : World) : Cp_points_sd ⟨f_0_0p, f_0_0l, f_0_0c⟩ ⟨f_0_1p, f_0_1l, f_0_1c⟩ ⟨f_0_2p, f_0_2l, f_0_2c⟩ f_0_3 f_0_4 ⟨f_0_5p, f_0_5l, f_0_5c⟩ (fun r0 w' => Kv (Value.int .i64 r0) w') w = W Try.prog Cp_points_E 19 (Cp_points_A Kv) Cp_points_C [] (retQ Try.prog Try.f24.results Kv) [] (startS [(Value.agg #[(Value.slice f_0_0p f_0_0l f_0_0c), (Value.slice f_0_1p f_0_1l f_0_1c), (Value.slice f_0_2p f_0_2l f_0_2c), (Value.int .i64 f_0_3), (Value.int .i64 f_0_4), (Value.slice f_0_5p f_0_5l f_0_5c)])]) w := by kernel_rfl
theorem Cp_points_e0 (Kv : VW) (N0 : List Value -> World -> Prop) (ρ : Rho) (sum_3 : Int) (t_7p : Option Addr) (t_7l t_7c : Nat) (t_8 t_9 : Int) (w : World) : Cp_points_b0 sum_3 ⟨t_7p, t_7l, t_7c⟩ t_8 t_9 (fun sum_3' t_7' t_8' t_9' w' => N0 [(Value.int .i64 sum_3'), (Value.slice t_7'.p t_7'.l t_7'.c), (Value.int .i64 t_8'), (Value.int .i64 t_9')] w') (fun r0 w' => Kv (Value.int .i64 r0) w') w = goalAt Try.prog Cp_points_E 19 (Cp_points_O Kv) 0 (N0 :: ρ) [(Value.int .i64 sum_3), (Value.slice t_7p t_7l t_7c), (Value.int .i64 t_8), (Value.int .i64 t_9)] w := by kernel_rfl
theorem Cp_points_q0 (Kv : VW) (ρ : Rho) (vs : List Value) (w : World) : labAt (Cp_points_O Kv) 0 ρ vs w = Cp_points_P0 Kv ρ vs w := by kernel_rfl
def Cp_points_I0 (t_70 : Sl) (t_80 : Int) (I : Int -> Int -> World -> Prop) (vs : List Value) (w : World) : Prop :=
  match vs with
  | [.int .i64 sum_3, .slice t_7p t_7l t_7c, .int .i64 t_8, .int .i64 t_9] => (⟨t_7p, t_7l, t_7c⟩ = t_70 /\ t_8 = t_80 /\ True) /\ I sum_3 t_9 w
  | _ => False
def Cp_points_M0 (μ : Int -> Int -> World -> Nat) (vs : List Value) (w : World) : Nat :=
  match vs with
  | [.int .i64 sum_3, .slice _t_7p _t_7l _t_7c, .int .i64 _t_8, .int .i64 t_9] => μ sum_3 t_9 w
  | _ => 0
theorem Cp_points_h0 (Kv : VW) : holdsAt Try.prog Cp_points_E 19 (Cp_points_O Kv) 0 := holdsAt_loop (by kernel_rfl) (fun ρ vs w h => by
  rw [Cp_points_q0] at h
  unfold Cp_points_P0 at h
  split at h
  · rename_i ρt sum_3 t_7p t_7l t_7c t_8 t_9
    obtain ⟨I, μ, h0, hr⟩ := h.out
    refine ⟨Cp_points_I0 ⟨t_7p, t_7l, t_7c⟩ t_8 I, Cp_points_M0 μ, ⟨⟨rfl, rfl, trivial⟩, h0⟩, fun vs w hI => ?_⟩
    unfold Cp_points_I0 at hI
    split at hI
    · obtain ⟨⟨h0, h1, _⟩, hI⟩ := hI
      cases h0; cases h1
      rw [← Cp_points_e0]
      exact hr _ _ _ hI
    · exact hI.elim
  · exact h.elim)
theorem Cp_points_n (Kv : VW) : obAt (Cp_points_O Kv) 1 = none := by kernel_rfl
theorem Cp_points_h (Kv : VW) : ∀ k, holdsAt Try.prog Cp_points_E 19 (Cp_points_O Kv) k := fun k => match k with
  | 0 => Cp_points_h0 Kv
  | _k + 1 => holdsAt_ge (Cp_points_n Kv) (Nat.le_add_left _ _)
theorem Cp_points_ok : Sound Try.prog 24 Cp_points_S := ⟨Try.call24, fun vs w Kv h => by
  unfold Cp_points_S at h
  split at h
  · have h := h.out
    rw [Cp_points_e] at h
    exact calls_sound (Γ := Cp_points_E) progMixed ⟨.inl Cp_taken_ok, trivial⟩ Try.func24 (code := Cp_points_C) (by kernel_rfl) (Cp_points_A Kv) Kv (holds_all (Cp_points_h Kv)) (Nat.le_of_ble_eq_true (by kernel_rfl)) h
  · exact h.elim⟩
/-! Cp_worth -/
def Cp_worth_sd (f_0_0 f_0_1 f_0_2 : Sl) (f_0_3 f_0_4 : Int) (f_0_5 : Sl) (K : Int -> World -> Prop) (w : World) : Prop :=
  let w1 := w.alloc (Obj.cells #[(Value.slice f_0_0.p f_0_0.l f_0_0.c), (Value.slice f_0_1.p f_0_1.l f_0_1.c), (Value.slice f_0_2.p f_0_2.l f_0_2.c), (Value.int .i64 f_0_3), (Value.int .i64 f_0_4), (Value.slice f_0_5.p f_0_5.l f_0_5.c)] 65)
  let w2 := w1.drew
  ∃ S3 : World -> Prop, S3 w2 /\ ∃ x4 : Sl, (∀ w' : World, S3 w' -> w'.cell? (Addr.mk w.heap.size 0 none) = some (Value.slice x4.p x4.l x4.c)) /\ ∃ x5 : Sl, (∀ w' : World, S3 w' -> w'.cell? (Addr.mk w.heap.size 1 none) = some (Value.slice x5.p x5.l x5.c)) /\ ∃ x6 : Sl, (∀ w' : World, S3 w' -> w'.cell? (Addr.mk w.heap.size 2 none) = some (Value.slice x6.p x6.l x6.c)) /\ ∃ x7 : Int, (∀ w' : World, S3 w' -> w'.cell? (Addr.mk w.heap.size 3 none) = some (Value.int .i64 x7)) /\ ∃ x8 : Int, (∀ w' : World, S3 w' -> w'.cell? (Addr.mk w.heap.size 4 none) = some (Value.int .i64 x8)) /\ ∃ x9 : Sl, (∀ w' : World, S3 w' -> w'.cell? (Addr.mk w.heap.size 5 none) = some (Value.slice x9.p x9.l x9.c)) /\ ∃ x10 : Int, (∀ w' : World, S3 w' -> w'.cell? (Addr.mk w.heap.size 4 none) = some (Value.int .i64 x10)) /\ inR .i64 (x10 + (1 : Int)) /\ ∃ x11 : Sl, (∀ w' : World, S3 w' -> w'.cell? (Addr.mk w.heap.size 0 none) = some (Value.slice x11.p x11.l x11.c)) /\ ∃ x12 : Sl, (∀ w' : World, S3 w' -> w'.cell? (Addr.mk w.heap.size 1 none) = some (Value.slice x12.p x12.l x12.c)) /\ ∃ x13 : Sl, (∀ w' : World, S3 w' -> w'.cell? (Addr.mk w.heap.size 2 none) = some (Value.slice x13.p x13.l x13.c)) /\ ∃ x14 : Int, (∀ w' : World, S3 w' -> w'.cell? (Addr.mk w.heap.size 3 none) = some (Value.int .i64 x14)) /\ ∃ x15 : Int, (∀ w' : World, S3 w' -> w'.cell? (Addr.mk w.heap.size 4 none) = some (Value.int .i64 x15)) /\ ∃ x16 : Sl, (∀ w' : World, S3 w' -> w'.cell? (Addr.mk w.heap.size 5 none) = some (Value.slice x16.p x16.l x16.c)) /\ Cp_points_sh x4 x5 x6 x7 x8 x9 (fun r18 w17 => S3 w17 /\ inR .i64 (r18 * (x10 + (1 : Int))) /\ Cp_least_sh x11 x12 x13 x14 x15 x16 (fun r20 w19 => S3 w19 /\ inR .i64 ((r18 * (x10 + (1 : Int))) - r20) /\ K ((r18 * (x10 + (1 : Int))) - r20) w19) w17) w2
structure Cp_worth_sh (f_0_0 f_0_1 f_0_2 : Sl) (f_0_3 f_0_4 : Int) (f_0_5 : Sl) (K : Int -> World -> Prop) (w : World) : Prop where
  out : Cp_worth_sd f_0_0 f_0_1 f_0_2 f_0_3 f_0_4 f_0_5 K w
noncomputable def Cp_worth_S : Pw.Spec := fun vs w Kv =>
  match vs with
  | [.agg ⟨[.slice f_0_0p f_0_0l f_0_0c, .slice f_0_1p f_0_1l f_0_1c, .slice f_0_2p f_0_2l f_0_2c, .int .i64 f_0_3, .int .i64 f_0_4, .slice f_0_5p f_0_5l f_0_5c]⟩] => Cp_worth_sh ⟨f_0_0p, f_0_0l, f_0_0c⟩ ⟨f_0_1p, f_0_1l, f_0_1c⟩ ⟨f_0_2p, f_0_2l, f_0_2c⟩ f_0_3 f_0_4 ⟨f_0_5p, f_0_5l, f_0_5c⟩ (fun r0 w' => Kv (Value.int .i64 r0) w') w
  | _ => False
noncomputable def Cp_worth_E : Pw.Env := [(24, Cp_points_S), (32, Cp_least_S)]
noncomputable def Cp_worth_C : Code := (Try.f52.body).getD .skip
noncomputable def Cp_worth_A (_Kv : VW) : Pw.A :=
  (A.seq (A.reg (Pw.rn 2 RA.done))
   (A.seq (A.drw (DA.pur 0 (DA.pur 2 (DA.pur 3 (DA.pur 4 (DA.pur 5 (DA.pur 7 (DA.eff 1 (DA.pur 6 (DA.eff 8 (DA.pur 9 (DA.pur 10 DA.done))))))))))))
   A.leaf))
noncomputable def Cp_worth_O (Kv : VW) : List Ob := (obs Try.prog Cp_worth_E 13 (Cp_worth_A Kv) Cp_worth_C (fun _ => retQ Try.prog Try.f52.results Kv))
theorem Cp_worth_e (Kv : VW) (f_0_0p : Option Addr) (f_0_0l f_0_0c : Nat) (f_0_1p : Option Addr) (f_0_1l f_0_1c : Nat) (f_0_2p : Option Addr) (f_0_2l f_0_2c : Nat) (f_0_3 f_0_4 : Int) (f_0_5p : Option Addr) (f_0_5l f_0_5c : Nat) (w : World) : Cp_worth_sd ⟨f_0_0p, f_0_0l, f_0_0c⟩ ⟨f_0_1p, f_0_1l, f_0_1c⟩ ⟨f_0_2p, f_0_2l, f_0_2c⟩ f_0_3 f_0_4 ⟨f_0_5p, f_0_5l, f_0_5c⟩ (fun r0 w' => Kv (Value.int .i64 r0) w') w = W Try.prog Cp_worth_E 13 (Cp_worth_A Kv) Cp_worth_C [] (retQ Try.prog Try.f52.results Kv) [] (startS [(Value.agg #[(Value.slice f_0_0p f_0_0l f_0_0c), (Value.slice f_0_1p f_0_1l f_0_1c), (Value.slice f_0_2p f_0_2l f_0_2c), (Value.int .i64 f_0_3), (Value.int .i64 f_0_4), (Value.slice f_0_5p f_0_5l f_0_5c)])]) w := by kernel_rfl
theorem Cp_worth_n (Kv : VW) : obAt (Cp_worth_O Kv) 0 = none := by kernel_rfl
theorem Cp_worth_h (Kv : VW) : ∀ k, holdsAt Try.prog Cp_worth_E 13 (Cp_worth_O Kv) k := fun _ => holdsAt_ge (Cp_worth_n Kv) (Nat.zero_le _)
theorem Cp_worth_ok : Sound Try.prog 52 Cp_worth_S := ⟨Try.call52, fun vs w Kv h => by
  unfold Cp_worth_S at h
  split at h
  · have h := h.out
    rw [Cp_worth_e] at h
    exact calls_sound (Γ := Cp_worth_E) progMixed ⟨.inl Cp_points_ok, .inl Cp_least_ok, trivial⟩ Try.func52 (code := Cp_worth_C) (by kernel_rfl) (Cp_worth_A Kv) Kv (holds_all (Cp_worth_h Kv)) (Nat.le_of_ble_eq_true (by kernel_rfl)) h
  · exact h.elim⟩
/-! slices_Compare -/
def slices_Compare_b0 (s1_0 s2_1 t_9 : Sl) (t_10 t_11 : Int) (N0 : Sl -> Sl -> Sl -> Int -> Int -> World -> Prop) (K : Int -> World -> Prop) (w : World) : Prop :=
  cnd (decide (t_11 < t_10))
    (nz t_9.p fun a1 => (0 <= t_11 /\ t_11 < (t_9.l : Nat)) /\ ∃ x2 : Int, w.cell? (a1.add (t_11.toNat * 1)) = some (Value.int .i64 x2) /\ cnd (decide (t_11 >= (s2_1.l : Int)))
    (K (1 : Int) w)
    (nz s2_1.p fun a3 => (0 <= t_11 /\ t_11 < (s2_1.l : Nat)) /\ ∃ x4 : Int, w.cell? (a3.add (t_11.toNat * 1)) = some (Value.int .i64 x4) /\ cmp_Compare_sh x2 x4 (fun r6 w5 => cnd (r6 != (0 : Int))
    (K r6 w5)
    (inR .i64 (t_11 + (1 : Int)) /\ N0 s1_0 s2_1 t_9 t_10 (t_11 + (1 : Int)) w5)) w))
    (cnd (decide ((s1_0.l : Int) < (s2_1.l : Int)))
    (K (-1 : Int) w)
    (K (0 : Int) w))
def slices_Compare_l0d (s1_0 s2_1 t_9 : Sl) (t_10 t_11 : Int) (K : Int -> World -> Prop) (w : World) : Prop :=
  ∃ (I : Int -> World -> Prop) (μ : Int -> World -> Nat), I t_11 w /\ ∀ (t_111 : Int) (w1 : World), I t_111 w1 ->
    slices_Compare_b0 s1_0 s2_1 t_9 t_10 t_111 (fun s1_0' s2_1' t_9' t_10' t_11' w' => ((s1_0' = s1_0 /\ s2_1' = s2_1 /\ t_9' = t_9 /\ t_10' = t_10 /\ True) /\ I t_11' w') /\ μ t_11' w' < μ t_111 w1) K w1
structure slices_Compare_l0 (s1_0 s2_1 t_9 : Sl) (t_10 t_11 : Int) (K : Int -> World -> Prop) (w : World) : Prop where
  out : slices_Compare_l0d s1_0 s2_1 t_9 t_10 t_11 K w
def slices_Compare_sd (s1_0 s2_1 : Sl) (K : Int -> World -> Prop) (w : World) : Prop :=
  slices_Compare_l0 s1_0 s2_1 s1_0 (s1_0.l : Int) (0 : Int) K w
structure slices_Compare_sh (s1_0 s2_1 : Sl) (K : Int -> World -> Prop) (w : World) : Prop where
  out : slices_Compare_sd s1_0 s2_1 K w
def slices_Compare_P0 (Kv : VW) (ρ : Rho) (vs : List Value) (w : World) : Prop :=
  match ρ, vs with
  | _, [.slice s1_0p s1_0l s1_0c, .slice s2_1p s2_1l s2_1c, .slice t_9p t_9l t_9c, .int .i64 t_10, .int .i64 t_11] => slices_Compare_l0 ⟨s1_0p, s1_0l, s1_0c⟩ ⟨s2_1p, s2_1l, s2_1c⟩ ⟨t_9p, t_9l, t_9c⟩ t_10 t_11 (fun r0 w' => Kv (Value.int .i64 r0) w') w
  | _, _ => False
noncomputable def slices_Compare_S : Pw.Spec := fun vs w Kv =>
  match vs with
  | [.slice s1_0p s1_0l s1_0c, .slice s2_1p s2_1l s2_1c] => slices_Compare_sh ⟨s1_0p, s1_0l, s1_0c⟩ ⟨s2_1p, s2_1l, s2_1c⟩ (fun r0 w' => Kv (Value.int .i64 r0) w') w
  | _ => False
noncomputable def slices_Compare_E : Pw.Env := [(51, cmp_Compare_S)]
noncomputable def slices_Compare_C : Code := (Try.f53.body).getD .skip
noncomputable def slices_Compare_A (Kv : VW) : Pw.A :=
  (A.seq (A.reg (RA.run RA.done))
   (A.seq (A.seq (A.reg (Pw.rn 3 RA.done))
   (A.blk (A.loop [0, 1, 9, 10, 11] (slices_Compare_P0 Kv) (A.seq (A.reg (RA.run RA.done))
   (A.seq (A.cond A.leaf
   A.leaf)
   (A.seq (A.blk (A.seq (A.reg (Pw.rn 5 RA.done))
   (A.seq (A.seq (A.reg (Pw.rn 4 RA.done))
   (A.cond (A.seq (A.reg (RA.run RA.done))
   A.leaf)
   A.leaf))
   (A.seq (A.reg (Pw.rn 5 RA.done))
   (A.seq (A.reg (Pw.rn 4 RA.done))
   (A.seq (A.reg (Pw.rn 2 RA.done))
   (A.cond (A.seq (A.reg (Pw.rn 2 RA.done))
   A.leaf)
   A.leaf)))))))
   (A.reg (Pw.rn 2 RA.done))))))))
   (A.seq (A.seq (A.reg (Pw.rn 5 RA.done))
   (A.cond (A.seq (A.reg (RA.run RA.done))
   A.leaf)
   A.leaf))
   (A.seq (A.reg (RA.run RA.done))
   A.leaf))))
noncomputable def slices_Compare_O (Kv : VW) : List Ob := (obs Try.prog slices_Compare_E 36 (slices_Compare_A Kv) slices_Compare_C (fun _ => retQ Try.prog Try.f53.results Kv))
theorem slices_Compare_e (Kv : VW) (s1_0p : Option Addr) (s1_0l s1_0c : Nat) (s2_1p : Option Addr) (s2_1l s2_1c : Nat) (w : World) : slices_Compare_sd ⟨s1_0p, s1_0l, s1_0c⟩ ⟨s2_1p, s2_1l, s2_1c⟩ (fun r0 w' => Kv (Value.int .i64 r0) w') w = W Try.prog slices_Compare_E 36 (slices_Compare_A Kv) slices_Compare_C [] (retQ Try.prog Try.f53.results Kv) [] (startS [(Value.slice s1_0p s1_0l s1_0c), (Value.slice s2_1p s2_1l s2_1c)]) w := by kernel_rfl
theorem slices_Compare_e0 (Kv : VW) (N0 : List Value -> World -> Prop) (ρ : Rho) (s1_0p : Option Addr) (s1_0l s1_0c : Nat) (s2_1p : Option Addr) (s2_1l s2_1c : Nat) (t_9p : Option Addr) (t_9l t_9c : Nat) (t_10 t_11 : Int) (w : World) : slices_Compare_b0 ⟨s1_0p, s1_0l, s1_0c⟩ ⟨s2_1p, s2_1l, s2_1c⟩ ⟨t_9p, t_9l, t_9c⟩ t_10 t_11 (fun s1_0' s2_1' t_9' t_10' t_11' w' => N0 [(Value.slice s1_0'.p s1_0'.l s1_0'.c), (Value.slice s2_1'.p s2_1'.l s2_1'.c), (Value.slice t_9'.p t_9'.l t_9'.c), (Value.int .i64 t_10'), (Value.int .i64 t_11')] w') (fun r0 w' => Kv (Value.int .i64 r0) w') w = goalAt Try.prog slices_Compare_E 36 (slices_Compare_O Kv) 0 (N0 :: ρ) [(Value.slice s1_0p s1_0l s1_0c), (Value.slice s2_1p s2_1l s2_1c), (Value.slice t_9p t_9l t_9c), (Value.int .i64 t_10), (Value.int .i64 t_11)] w := by kernel_rfl
theorem slices_Compare_q0 (Kv : VW) (ρ : Rho) (vs : List Value) (w : World) : labAt (slices_Compare_O Kv) 0 ρ vs w = slices_Compare_P0 Kv ρ vs w := by kernel_rfl
def slices_Compare_I0 (s1_00 s2_10 t_90 : Sl) (t_100 : Int) (I : Int -> World -> Prop) (vs : List Value) (w : World) : Prop :=
  match vs with
  | [.slice s1_0p s1_0l s1_0c, .slice s2_1p s2_1l s2_1c, .slice t_9p t_9l t_9c, .int .i64 t_10, .int .i64 t_11] => (⟨s1_0p, s1_0l, s1_0c⟩ = s1_00 /\ ⟨s2_1p, s2_1l, s2_1c⟩ = s2_10 /\ ⟨t_9p, t_9l, t_9c⟩ = t_90 /\ t_10 = t_100 /\ True) /\ I t_11 w
  | _ => False
def slices_Compare_M0 (μ : Int -> World -> Nat) (vs : List Value) (w : World) : Nat :=
  match vs with
  | [.slice _s1_0p _s1_0l _s1_0c, .slice _s2_1p _s2_1l _s2_1c, .slice _t_9p _t_9l _t_9c, .int .i64 _t_10, .int .i64 t_11] => μ t_11 w
  | _ => 0
theorem slices_Compare_h0 (Kv : VW) : holdsAt Try.prog slices_Compare_E 36 (slices_Compare_O Kv) 0 := holdsAt_loop (by kernel_rfl) (fun ρ vs w h => by
  rw [slices_Compare_q0] at h
  unfold slices_Compare_P0 at h
  split at h
  · rename_i ρt s1_0p s1_0l s1_0c s2_1p s2_1l s2_1c t_9p t_9l t_9c t_10 t_11
    obtain ⟨I, μ, h0, hr⟩ := h.out
    refine ⟨slices_Compare_I0 ⟨s1_0p, s1_0l, s1_0c⟩ ⟨s2_1p, s2_1l, s2_1c⟩ ⟨t_9p, t_9l, t_9c⟩ t_10 I, slices_Compare_M0 μ, ⟨⟨rfl, rfl, rfl, rfl, trivial⟩, h0⟩, fun vs w hI => ?_⟩
    unfold slices_Compare_I0 at hI
    split at hI
    · obtain ⟨⟨h0, h1, h2, h3, _⟩, hI⟩ := hI
      cases h0; cases h1; cases h2; cases h3
      rw [← slices_Compare_e0]
      exact hr _ _ hI
    · exact hI.elim
  · exact h.elim)
theorem slices_Compare_n (Kv : VW) : obAt (slices_Compare_O Kv) 1 = none := by kernel_rfl
theorem slices_Compare_h (Kv : VW) : ∀ k, holdsAt Try.prog slices_Compare_E 36 (slices_Compare_O Kv) k := fun k => match k with
  | 0 => slices_Compare_h0 Kv
  | _k + 1 => holdsAt_ge (slices_Compare_n Kv) (Nat.le_add_left _ _)
theorem slices_Compare_ok : Sound Try.prog 53 slices_Compare_S := ⟨Try.call53, fun vs w Kv h => by
  unfold slices_Compare_S at h
  split at h
  · have h := h.out
    rw [slices_Compare_e] at h
    exact calls_sound (Γ := slices_Compare_E) progMixed ⟨.inl cmp_Compare_ok, trivial⟩ Try.func53 (code := slices_Compare_C) (by kernel_rfl) (slices_Compare_A Kv) Kv (holds_all (slices_Compare_h Kv)) (Nat.le_of_ble_eq_true (by kernel_rfl)) h
  · exact h.elim⟩
/-! Cb_better -/
def Cb_better_sd (a_0_0 a_0_1 a_0_2 : Sl) (a_0_3 a_0_4 : Int) (a_0_5 b_1_0 : Sl) (b_1_1 b_1_2 : Sl) (b_1_3 b_1_4 : Int) (b_1_5 : Sl) (K : Bool -> World -> Prop) (w : World) : Prop :=
  let w1 := w.alloc (Obj.cells #[(Value.slice a_0_0.p a_0_0.l a_0_0.c), (Value.slice a_0_1.p a_0_1.l a_0_1.c), (Value.slice a_0_2.p a_0_2.l a_0_2.c), (Value.int .i64 a_0_3), (Value.int .i64 a_0_4), (Value.slice a_0_5.p a_0_5.l a_0_5.c)] 65)
  let w2 := w1.alloc (Obj.cells #[(Value.slice b_1_0.p b_1_0.l b_1_0.c), (Value.slice b_1_1.p b_1_1.l b_1_1.c), (Value.slice b_1_2.p b_1_2.l b_1_2.c), (Value.int .i64 b_1_3), (Value.int .i64 b_1_4), (Value.slice b_1_5.p b_1_5.l b_1_5.c)] 65)
  let w3 := w2.drew
  ∃ S4 : World -> Prop, S4 w3 /\ ∃ x5 : Sl, (∀ w' : World, S4 w' -> w'.cell? (Addr.mk w.heap.size 0 none) = some (Value.slice x5.p x5.l x5.c)) /\ ∃ x6 : Sl, (∀ w' : World, S4 w' -> w'.cell? (Addr.mk w.heap.size 1 none) = some (Value.slice x6.p x6.l x6.c)) /\ ∃ x7 : Sl, (∀ w' : World, S4 w' -> w'.cell? (Addr.mk w.heap.size 2 none) = some (Value.slice x7.p x7.l x7.c)) /\ ∃ x8 : Int, (∀ w' : World, S4 w' -> w'.cell? (Addr.mk w.heap.size 3 none) = some (Value.int .i64 x8)) /\ ∃ x9 : Int, (∀ w' : World, S4 w' -> w'.cell? (Addr.mk w.heap.size 4 none) = some (Value.int .i64 x9)) /\ ∃ x10 : Sl, (∀ w' : World, S4 w' -> w'.cell? (Addr.mk w.heap.size 5 none) = some (Value.slice x10.p x10.l x10.c)) /\ ∃ x11 : Sl, (∀ w' : World, S4 w' -> w'.cell? (Addr.mk w1.heap.size 0 none) = some (Value.slice x11.p x11.l x11.c)) /\ ∃ x12 : Sl, (∀ w' : World, S4 w' -> w'.cell? (Addr.mk w1.heap.size 1 none) = some (Value.slice x12.p x12.l x12.c)) /\ ∃ x13 : Sl, (∀ w' : World, S4 w' -> w'.cell? (Addr.mk w1.heap.size 2 none) = some (Value.slice x13.p x13.l x13.c)) /\ ∃ x14 : Int, (∀ w' : World, S4 w' -> w'.cell? (Addr.mk w1.heap.size 3 none) = some (Value.int .i64 x14)) /\ ∃ x15 : Int, (∀ w' : World, S4 w' -> w'.cell? (Addr.mk w1.heap.size 4 none) = some (Value.int .i64 x15)) /\ ∃ x16 : Sl, (∀ w' : World, S4 w' -> w'.cell? (Addr.mk w1.heap.size 5 none) = some (Value.slice x16.p x16.l x16.c)) /\ ∃ x17 : Sl, (∀ w' : World, S4 w' -> w'.cell? (Addr.mk w1.heap.size 5 none) = some (Value.slice x17.p x17.l x17.c)) /\ ∃ x18 : Sl, (∀ w' : World, S4 w' -> w'.cell? (Addr.mk w.heap.size 5 none) = some (Value.slice x18.p x18.l x18.c)) /\ Cp_worth_sh x5 x6 x7 x8 x9 x10 (fun r20 w19 => S4 w19 /\ Cp_worth_sh x11 x12 x13 x14 x15 x16 (fun r22 w21 => S4 w21 /\ cmp_Compare_sh r20 r22 (fun r24 w23 => S4 w23 /\ slices_Compare_sh x17 x18 (fun r26 w25 => S4 w25 /\ let w27 := w25.alloc (Obj.cells #[(Value.int .i64 r24), (Value.int .i64 r26)] 3)
  S4 w27 /\ cmp_Or_sh (Sl.mk (some (Addr.mk w25.heap.size 0 none)) 2 2) (fun r29 w28 => S4 w28 /\ K (decide (r29 > (0 : Int))) w28) w27) w23) w21) w19) w3
structure Cb_better_sh (a_0_0 a_0_1 a_0_2 : Sl) (a_0_3 a_0_4 : Int) (a_0_5 b_1_0 : Sl) (b_1_1 b_1_2 : Sl) (b_1_3 b_1_4 : Int) (b_1_5 : Sl) (K : Bool -> World -> Prop) (w : World) : Prop where
  out : Cb_better_sd a_0_0 a_0_1 a_0_2 a_0_3 a_0_4 a_0_5 b_1_0 b_1_1 b_1_2 b_1_3 b_1_4 b_1_5 K w
noncomputable def Cb_better_S : Pw.Spec := fun vs w Kv =>
  match vs with
  | [.agg ⟨[.slice a_0_0p a_0_0l a_0_0c, .slice a_0_1p a_0_1l a_0_1c, .slice a_0_2p a_0_2l a_0_2c, .int .i64 a_0_3, .int .i64 a_0_4, .slice a_0_5p a_0_5l a_0_5c]⟩, .agg ⟨[.slice b_1_0p b_1_0l b_1_0c, .slice b_1_1p b_1_1l b_1_1c, .slice b_1_2p b_1_2l b_1_2c, .int .i64 b_1_3, .int .i64 b_1_4, .slice b_1_5p b_1_5l b_1_5c]⟩] => Cb_better_sh ⟨a_0_0p, a_0_0l, a_0_0c⟩ ⟨a_0_1p, a_0_1l, a_0_1c⟩ ⟨a_0_2p, a_0_2l, a_0_2c⟩ a_0_3 a_0_4 ⟨a_0_5p, a_0_5l, a_0_5c⟩ ⟨b_1_0p, b_1_0l, b_1_0c⟩ ⟨b_1_1p, b_1_1l, b_1_1c⟩ ⟨b_1_2p, b_1_2l, b_1_2c⟩ b_1_3 b_1_4 ⟨b_1_5p, b_1_5l, b_1_5c⟩ (fun r0 w' => Kv (Value.bool r0) w') w
  | _ => False
noncomputable def Cb_better_E : Pw.Env := [(50, cmp_Or_S), (51, cmp_Compare_S), (52, Cp_worth_S), (53, slices_Compare_S)]
noncomputable def Cb_better_C : Code := (Try.f30.body).getD .skip
noncomputable def Cb_better_A (_Kv : VW) : Pw.A :=
  (A.seq (A.reg (Pw.rn 3 RA.done))
   (A.seq (A.drw (DA.pur 0 (DA.pur 2 (DA.pur 5 (DA.pur 6 (DA.pur 7 (DA.pur 8 (DA.eff 1 (DA.eff 3 (DA.eff 4 (DA.eff 9 (DA.eff 10 (DA.eff 11 (DA.pur 12 (DA.pur 13 DA.done)))))))))))))))
   A.leaf))
noncomputable def Cb_better_O (Kv : VW) : List Ob := (obs Try.prog Cb_better_E 18 (Cb_better_A Kv) Cb_better_C (fun _ => retQ Try.prog Try.f30.results Kv))
theorem Cb_better_e (Kv : VW) (a_0_0p : Option Addr) (a_0_0l a_0_0c : Nat) (a_0_1p : Option Addr) (a_0_1l a_0_1c : Nat) (a_0_2p : Option Addr) (a_0_2l a_0_2c : Nat) (a_0_3 a_0_4 : Int) (a_0_5p : Option Addr) (a_0_5l a_0_5c : Nat) (b_1_0p : Option Addr) (b_1_0l b_1_0c : Nat) (b_1_1p : Option Addr) (b_1_1l b_1_1c : Nat) (b_1_2p : Option Addr) (b_1_2l b_1_2c : Nat) (b_1_3 b_1_4 : Int) (b_1_5p : Option Addr) (b_1_5l b_1_5c : Nat) (w : World) : Cb_better_sd ⟨a_0_0p, a_0_0l, a_0_0c⟩ ⟨a_0_1p, a_0_1l, a_0_1c⟩ ⟨a_0_2p, a_0_2l, a_0_2c⟩ a_0_3 a_0_4 ⟨a_0_5p, a_0_5l, a_0_5c⟩ ⟨b_1_0p, b_1_0l, b_1_0c⟩ ⟨b_1_1p, b_1_1l, b_1_1c⟩ ⟨b_1_2p, b_1_2l, b_1_2c⟩ b_1_3 b_1_4 ⟨b_1_5p, b_1_5l, b_1_5c⟩ (fun r0 w' => Kv (Value.bool r0) w') w = W Try.prog Cb_better_E 18 (Cb_better_A Kv) Cb_better_C [] (retQ Try.prog Try.f30.results Kv) [] (startS [(Value.agg #[(Value.slice a_0_0p a_0_0l a_0_0c), (Value.slice a_0_1p a_0_1l a_0_1c), (Value.slice a_0_2p a_0_2l a_0_2c), (Value.int .i64 a_0_3), (Value.int .i64 a_0_4), (Value.slice a_0_5p a_0_5l a_0_5c)]), (Value.agg #[(Value.slice b_1_0p b_1_0l b_1_0c), (Value.slice b_1_1p b_1_1l b_1_1c), (Value.slice b_1_2p b_1_2l b_1_2c), (Value.int .i64 b_1_3), (Value.int .i64 b_1_4), (Value.slice b_1_5p b_1_5l b_1_5c)])]) w := by kernel_rfl
theorem Cb_better_n (Kv : VW) : obAt (Cb_better_O Kv) 0 = none := by kernel_rfl
theorem Cb_better_h (Kv : VW) : ∀ k, holdsAt Try.prog Cb_better_E 18 (Cb_better_O Kv) k := fun _ => holdsAt_ge (Cb_better_n Kv) (Nat.zero_le _)
theorem Cb_better_ok : Sound Try.prog 30 Cb_better_S := ⟨Try.call30, fun vs w Kv h => by
  unfold Cb_better_S at h
  split at h
  · have h := h.out
    rw [Cb_better_e] at h
    exact calls_sound (Γ := Cb_better_E) progMixed ⟨.inl cmp_Or_ok, .inl cmp_Compare_ok, .inl Cp_worth_ok, .inl slices_Compare_ok, trivial⟩ Try.func30 (code := Cb_better_C) (by kernel_rfl) (Cb_better_A Kv) Kv (holds_all (Cb_better_h Kv)) (Nat.le_of_ble_eq_true (by kernel_rfl)) h
  · exact h.elim⟩
/-! slices_Clone -/
def slices_Clone_sd (s_0 : Sl) (K : Sl -> World -> Prop) (w : World) : Prop :=
  cnd s_0.p.isNone
    (K (Sl.mk none 0 0) w)
    (let w1 := w.alloc (Obj.cells #[] 3)
  apS 1 8 [(Value.int .i64 0)] 3 (Sl.mk (some (Addr.mk w.heap.size 0 none)) 0 0) s_0 w1 fun s2 w3 => K s2 w3)
structure slices_Clone_sh (s_0 : Sl) (K : Sl -> World -> Prop) (w : World) : Prop where
  out : slices_Clone_sd s_0 K w
noncomputable def slices_Clone_S : Pw.Spec := fun vs w Kv =>
  match vs with
  | [.slice s_0p s_0l s_0c] => slices_Clone_sh ⟨s_0p, s_0l, s_0c⟩ (fun r0 w' => Kv (Value.slice r0.p r0.l r0.c) w') w
  | _ => False
noncomputable def slices_Clone_E : Pw.Env := []
noncomputable def slices_Clone_C : Code := (Try.f46.body).getD .skip
noncomputable def slices_Clone_A (_Kv : VW) : Pw.A :=
  (A.seq (A.reg (RA.run RA.done))
   (A.seq (A.seq (A.reg (Pw.rn 2 RA.done))
   (A.cond (A.seq (A.reg (RA.run RA.done))
   A.leaf)
   A.leaf))
   (A.seq (A.reg (Pw.rn 4 RA.done))
   A.leaf)))
noncomputable def slices_Clone_O (Kv : VW) : List Ob := (obs Try.prog slices_Clone_E 8 (slices_Clone_A Kv) slices_Clone_C (fun _ => retQ Try.prog Try.f46.results Kv))
theorem slices_Clone_e (Kv : VW) (s_0p : Option Addr) (s_0l s_0c : Nat) (w : World) : slices_Clone_sd ⟨s_0p, s_0l, s_0c⟩ (fun r0 w' => Kv (Value.slice r0.p r0.l r0.c) w') w = W Try.prog slices_Clone_E 8 (slices_Clone_A Kv) slices_Clone_C [] (retQ Try.prog Try.f46.results Kv) [] (startS [(Value.slice s_0p s_0l s_0c)]) w := by kernel_rfl
theorem slices_Clone_n (Kv : VW) : obAt (slices_Clone_O Kv) 0 = none := by kernel_rfl
theorem slices_Clone_h (Kv : VW) : ∀ k, holdsAt Try.prog slices_Clone_E 8 (slices_Clone_O Kv) k := fun _ => holdsAt_ge (slices_Clone_n Kv) (Nat.zero_le _)
theorem slices_Clone_ok : Sound Try.prog 46 slices_Clone_S := ⟨Try.call46, fun vs w Kv h => by
  unfold slices_Clone_S at h
  split at h
  · have h := h.out
    rw [slices_Clone_e] at h
    exact calls_sound (Γ := slices_Clone_E) progMixed trivial Try.func46 (code := slices_Clone_C) (by kernel_rfl) (slices_Clone_A Kv) Kv (holds_all (slices_Clone_h Kv)) (Nat.le_of_ble_eq_true (by kernel_rfl)) h
  · exact h.elim⟩
/-! slices_Backward_1 -/
def slices_Backward_1_b0 (yield_0 : Value) (t_1 : Addr) (i_3 : Int) (N0 : Value -> Addr -> Int -> World -> Prop) (K : World -> Prop) (w : World) : Prop :=
  cnd (decide (i_3 >= (0 : Int)))
    (∃ x2 : Sl, w.cell? t_1 = some (Value.slice x2.p x2.l x2.c) /\ nz x2.p fun a3 => (0 <= i_3 /\ i_3 < (x2.l : Nat)) /\ ∃ x4 : Int, w.cell? (a3.add (i_3.toNat * 1)) = some (Value.int .i64 x4) /\ CallV Try.prog yield_0 [(Value.int .i64 i_3), (Value.int .i64 x4)] w fun u5 w6 => ∃ x7 : Bool, u5 = (Value.bool x7) /\ cnd (!x7)
    (K w6)
    (inR .i64 (i_3 - (1 : Int)) /\ N0 yield_0 t_1 (i_3 - (1 : Int)) w6))
    (K w)
def slices_Backward_1_l0d (yield_0 : Value) (t_1 : Addr) (i_3 : Int) (K : World -> Prop) (w : World) : Prop :=
  ∃ (I : Int -> World -> Prop) (μ : Int -> World -> Nat), I i_3 w /\ ∀ (i_31 : Int) (w1 : World), I i_31 w1 ->
    slices_Backward_1_b0 yield_0 t_1 i_31 (fun yield_0' t_1' i_3' w' => ((yield_0' = yield_0 /\ t_1' = t_1 /\ True) /\ I i_3' w') /\ μ i_3' w' < μ i_31 w1) K w1
structure slices_Backward_1_l0 (yield_0 : Value) (t_1 : Addr) (i_3 : Int) (K : World -> Prop) (w : World) : Prop where
  out : slices_Backward_1_l0d yield_0 t_1 i_3 K w
def slices_Backward_1_sd (yield_0 : Value) (t_1 : Addr) (K : World -> Prop) (w : World) : Prop :=
  ∃ x1 : Sl, w.cell? t_1 = some (Value.slice x1.p x1.l x1.c) /\ inR .i64 ((x1.l : Int) - (1 : Int)) /\ slices_Backward_1_l0 yield_0 t_1 ((x1.l : Int) - (1 : Int)) K w
structure slices_Backward_1_sh (yield_0 : Value) (t_1 : Addr) (K : World -> Prop) (w : World) : Prop where
  out : slices_Backward_1_sd yield_0 t_1 K w
def slices_Backward_1_P0 (Kv : VW) (ρ : Rho) (vs : List Value) (w : World) : Prop :=
  match ρ, vs with
  | _, [yield_0, .pointer (some t_1), .int .i64 i_3] => slices_Backward_1_l0 yield_0 t_1 i_3 (fun w' => Kv (Value.tuple #[]) w') w
  | _, _ => False
noncomputable def slices_Backward_1_S : Pw.Spec := fun vs w Kv =>
  match vs with
  | [yield_0, .pointer (some t_1)] => slices_Backward_1_sh yield_0 t_1 (fun w' => Kv (Value.tuple #[]) w') w
  | _ => False
noncomputable def slices_Backward_1_E : Pw.Env := []
noncomputable def slices_Backward_1_C : Code := (Try.f67.body).getD .skip
noncomputable def slices_Backward_1_A (Kv : VW) : Pw.A :=
  (A.seq (A.reg (Pw.rn 4 RA.done))
   (A.blk (A.loop [0, 1, 3] (slices_Backward_1_P0 Kv) (A.seq (A.seq (A.reg (Pw.rn 2 RA.done))
   (A.cond A.leaf
   A.leaf))
   (A.seq (A.blk (A.seq (A.reg (Pw.rn 6 (RA.dyn (Value.bool false) (RA.run RA.done))))
   (A.cond A.leaf
   A.leaf)))
   (A.reg (Pw.rn 3 RA.done)))))))
noncomputable def slices_Backward_1_O (Kv : VW) : List Ob := (obs Try.prog slices_Backward_1_E 19 (slices_Backward_1_A Kv) slices_Backward_1_C (fun _ => retQ Try.prog Try.f67.results Kv))
theorem slices_Backward_1_e (Kv : VW) (yield_0 : Value) (t_1 : Addr) (w : World) : slices_Backward_1_sd yield_0 t_1 (fun w' => Kv (Value.tuple #[]) w') w = W Try.prog slices_Backward_1_E 19 (slices_Backward_1_A Kv) slices_Backward_1_C [] (retQ Try.prog Try.f67.results Kv) [] (startS [yield_0, (Value.pointer (some t_1))]) w := by kernel_rfl
theorem slices_Backward_1_e0 (Kv : VW) (N0 : List Value -> World -> Prop) (ρ : Rho) (yield_0 : Value) (t_1 : Addr) (i_3 : Int) (w : World) : slices_Backward_1_b0 yield_0 t_1 i_3 (fun yield_0' t_1' i_3' w' => N0 [yield_0', (Value.pointer (some t_1')), (Value.int .i64 i_3')] w') (fun w' => Kv (Value.tuple #[]) w') w = goalAt Try.prog slices_Backward_1_E 19 (slices_Backward_1_O Kv) 0 (N0 :: ρ) [yield_0, (Value.pointer (some t_1)), (Value.int .i64 i_3)] w := by kernel_rfl
theorem slices_Backward_1_q0 (Kv : VW) (ρ : Rho) (vs : List Value) (w : World) : labAt (slices_Backward_1_O Kv) 0 ρ vs w = slices_Backward_1_P0 Kv ρ vs w := by kernel_rfl
def slices_Backward_1_I0 (yield_00 : Value) (t_10 : Addr) (I : Int -> World -> Prop) (vs : List Value) (w : World) : Prop :=
  match vs with
  | [yield_0, .pointer (some t_1), .int .i64 i_3] => (yield_0 = yield_00 /\ t_1 = t_10 /\ True) /\ I i_3 w
  | _ => False
def slices_Backward_1_M0 (μ : Int -> World -> Nat) (vs : List Value) (w : World) : Nat :=
  match vs with
  | [_yield_0, .pointer (some _t_1), .int .i64 i_3] => μ i_3 w
  | _ => 0
theorem slices_Backward_1_h0 (Kv : VW) : holdsAt Try.prog slices_Backward_1_E 19 (slices_Backward_1_O Kv) 0 := holdsAt_loop (by kernel_rfl) (fun ρ vs w h => by
  rw [slices_Backward_1_q0] at h
  unfold slices_Backward_1_P0 at h
  split at h
  · rename_i ρt yield_0 t_1 i_3
    obtain ⟨I, μ, h0, hr⟩ := h.out
    refine ⟨slices_Backward_1_I0 yield_0 t_1 I, slices_Backward_1_M0 μ, ⟨⟨rfl, rfl, trivial⟩, h0⟩, fun vs w hI => ?_⟩
    unfold slices_Backward_1_I0 at hI
    split at hI
    · obtain ⟨⟨h0, h1, _⟩, hI⟩ := hI
      cases h0; cases h1
      rw [← slices_Backward_1_e0]
      exact hr _ _ hI
    · exact hI.elim
  · exact h.elim)
theorem slices_Backward_1_n (Kv : VW) : obAt (slices_Backward_1_O Kv) 1 = none := by kernel_rfl
theorem slices_Backward_1_h (Kv : VW) : ∀ k, holdsAt Try.prog slices_Backward_1_E 19 (slices_Backward_1_O Kv) k := fun k => match k with
  | 0 => slices_Backward_1_h0 Kv
  | _k + 1 => holdsAt_ge (slices_Backward_1_n Kv) (Nat.le_add_left _ _)
theorem slices_Backward_1_ok : Sound Try.prog 67 slices_Backward_1_S := ⟨Try.call67, fun vs w Kv h => by
  unfold slices_Backward_1_S at h
  split at h
  · have h := h.out
    rw [slices_Backward_1_e] at h
    exact calls_sound (Γ := slices_Backward_1_E) progMixed trivial Try.func67 (code := slices_Backward_1_C) (by kernel_rfl) (slices_Backward_1_A Kv) Kv (holds_all (slices_Backward_1_h Kv)) (Nat.le_of_ble_eq_true (by kernel_rfl)) h
  · exact h.elim⟩
/-! slices_Backward -/
def slices_Backward_sd (s_0 : Sl) (K : Value -> World -> Prop) (w : World) : Prop :=
  let w1 := w.alloc (Obj.cells #[(Value.slice s_0.p s_0.l s_0.c)] 22)
  K (Value.func (.func 67) #[] #[(Value.pointer (some (Addr.mk w.heap.size 0 none)))]) w1
structure slices_Backward_sh (s_0 : Sl) (K : Value -> World -> Prop) (w : World) : Prop where
  out : slices_Backward_sd s_0 K w
noncomputable def slices_Backward_S : Pw.Spec := fun vs w Kv =>
  match vs with
  | [.slice s_0p s_0l s_0c] => slices_Backward_sh ⟨s_0p, s_0l, s_0c⟩ (fun r0 w' => Kv r0 w') w
  | _ => False
noncomputable def slices_Backward_E : Pw.Env := []
noncomputable def slices_Backward_C : Code := (Try.f47.body).getD .skip
noncomputable def slices_Backward_A (_Kv : VW) : Pw.A :=
  (A.seq (A.reg (Pw.rn 2 RA.done))
   (A.seq (A.reg (Pw.rn 2 RA.done))
   A.leaf))
noncomputable def slices_Backward_O (Kv : VW) : List Ob := (obs Try.prog slices_Backward_E 4 (slices_Backward_A Kv) slices_Backward_C (fun _ => retQ Try.prog Try.f47.results Kv))
theorem slices_Backward_e (Kv : VW) (s_0p : Option Addr) (s_0l s_0c : Nat) (w : World) : slices_Backward_sd ⟨s_0p, s_0l, s_0c⟩ (fun r0 w' => Kv r0 w') w = W Try.prog slices_Backward_E 4 (slices_Backward_A Kv) slices_Backward_C [] (retQ Try.prog Try.f47.results Kv) [] (startS [(Value.slice s_0p s_0l s_0c)]) w := by kernel_rfl
theorem slices_Backward_n (Kv : VW) : obAt (slices_Backward_O Kv) 0 = none := by kernel_rfl
theorem slices_Backward_h (Kv : VW) : ∀ k, holdsAt Try.prog slices_Backward_E 4 (slices_Backward_O Kv) k := fun _ => holdsAt_ge (slices_Backward_n Kv) (Nat.zero_le _)
theorem slices_Backward_ok : Sound Try.prog 47 slices_Backward_S := ⟨Try.call47, fun vs w Kv h => by
  unfold slices_Backward_S at h
  split at h
  · have h := h.out
    rw [slices_Backward_e] at h
    exact calls_sound (Γ := slices_Backward_E) progMixed trivial Try.func47 (code := slices_Backward_C) (by kernel_rfl) (slices_Backward_A Kv) Kv (holds_all (slices_Backward_h Kv)) (Nat.le_of_ble_eq_true (by kernel_rfl)) h
  · exact h.elim⟩
/-! Cp_fits -/
def Cp_fits_b0 (f_1 : Addr) (t_14 : Sl) (t_15 t_16 : Int) (N0 : Addr -> Sl -> Int -> Int -> World -> Prop) (K : Bool -> World -> Prop) (w : World) : Prop :=
  cnd (decide (t_16 < t_15))
    (nz t_14.p fun a5 => (0 <= t_16 /\ t_16 < (t_14.l : Nat)) /\ ∃ x6 : Int, w.cell? (a5.add (t_16.toNat * 1)) = some (Value.int .i64 x6) /\ let w7 := w.drew
  cnd (decide (x6 < (-1 : Int)))
    (K false w7)
    (∃ x8 : Sl, w7.cell? (f_1.add 1) = some (Value.slice x8.p x8.l x8.c) /\ cnd (decide (x6 >= (x8.l : Int)))
    (K false w7)
    (cnd (decide (x6 >= (0 : Int)))
    (∃ x9 : Sl, w7.cell? (f_1.add 1) = some (Value.slice x9.p x9.l x9.c) /\ nz x9.p fun a10 => (0 <= x6 /\ x6 < (x9.l : Nat)) /\ ∃ x11 : Int, w7.cell? (a10.add (x6.toNat * 4)) = some (Value.int .i64 x11) /\ ∃ x12 : Sl, w7.cell? f_1 = some (Value.slice x12.p x12.l x12.c) /\ nz x12.p fun a13 => (0 <= t_16 /\ t_16 < (x12.l : Nat)) /\ ∃ x14 : Int, w7.cell? (a13.add (t_16.toNat * 1)) = some (Value.int .i64 x14) /\ cnd (x11 != x14)
    (K false w7)
    (inR .i64 (t_16 + (1 : Int)) /\ N0 f_1 t_14 t_15 (t_16 + (1 : Int)) w7))
    (inR .i64 (t_16 + (1 : Int)) /\ N0 f_1 t_14 t_15 (t_16 + (1 : Int)) w7))))
    (K true w)
def Cp_fits_l0d (f_1 : Addr) (t_14 : Sl) (t_15 t_16 : Int) (K : Bool -> World -> Prop) (w : World) : Prop :=
  ∃ (I : Int -> World -> Prop) (μ : Int -> World -> Nat), I t_16 w /\ ∀ (t_161 : Int) (w1 : World), I t_161 w1 ->
    Cp_fits_b0 f_1 t_14 t_15 t_161 (fun f_1' t_14' t_15' t_16' w' => ((f_1' = f_1 /\ t_14' = t_14 /\ t_15' = t_15 /\ True) /\ I t_16' w') /\ μ t_16' w' < μ t_161 w1) K w1
structure Cp_fits_l0 (f_1 : Addr) (t_14 : Sl) (t_15 t_16 : Int) (K : Bool -> World -> Prop) (w : World) : Prop where
  out : Cp_fits_l0d f_1 t_14 t_15 t_16 K w
def Cp_fits_sd (f_0_0 f_0_1 f_0_2 : Sl) (f_0_3 f_0_4 : Int) (f_0_5 : Sl) (K : Bool -> World -> Prop) (w : World) : Prop :=
  let w1 := w.alloc (Obj.cells #[(Value.slice f_0_0.p f_0_0.l f_0_0.c), (Value.slice f_0_1.p f_0_1.l f_0_1.c), (Value.slice f_0_2.p f_0_2.l f_0_2.c), (Value.int .i64 f_0_3), (Value.int .i64 f_0_4), (Value.slice f_0_5.p f_0_5.l f_0_5.c)] 65)
  ∃ x2 : Sl, w1.cell? (Addr.mk w.heap.size 5 none) = some (Value.slice x2.p x2.l x2.c) /\ ∃ x3 : Sl, w1.cell? (Addr.mk w.heap.size 0 none) = some (Value.slice x3.p x3.l x3.c) /\ cnd ((x2.l : Int) != (x3.l : Int))
    (K false w1)
    (∃ x4 : Sl, w1.cell? (Addr.mk w.heap.size 5 none) = some (Value.slice x4.p x4.l x4.c) /\ Cp_fits_l0 (Addr.mk w.heap.size 0 none) x4 (x4.l : Int) (0 : Int) K w1)
structure Cp_fits_sh (f_0_0 f_0_1 f_0_2 : Sl) (f_0_3 f_0_4 : Int) (f_0_5 : Sl) (K : Bool -> World -> Prop) (w : World) : Prop where
  out : Cp_fits_sd f_0_0 f_0_1 f_0_2 f_0_3 f_0_4 f_0_5 K w
def Cp_fits_P0 (Kv : VW) (ρ : Rho) (vs : List Value) (w : World) : Prop :=
  match ρ, vs with
  | _, [.pointer (some f_1), .slice t_14p t_14l t_14c, .int .i64 t_15, .int .i64 t_16] => Cp_fits_l0 f_1 ⟨t_14p, t_14l, t_14c⟩ t_15 t_16 (fun r0 w' => Kv (Value.bool r0) w') w
  | _, _ => False
noncomputable def Cp_fits_S : Pw.Spec := fun vs w Kv =>
  match vs with
  | [.agg ⟨[.slice f_0_0p f_0_0l f_0_0c, .slice f_0_1p f_0_1l f_0_1c, .slice f_0_2p f_0_2l f_0_2c, .int .i64 f_0_3, .int .i64 f_0_4, .slice f_0_5p f_0_5l f_0_5c]⟩] => Cp_fits_sh ⟨f_0_0p, f_0_0l, f_0_0c⟩ ⟨f_0_1p, f_0_1l, f_0_1c⟩ ⟨f_0_2p, f_0_2l, f_0_2c⟩ f_0_3 f_0_4 ⟨f_0_5p, f_0_5l, f_0_5c⟩ (fun r0 w' => Kv (Value.bool r0) w') w
  | _ => False
noncomputable def Cp_fits_E : Pw.Env := []
noncomputable def Cp_fits_C : Code := (Try.f31.body).getD .skip
noncomputable def Cp_fits_A (Kv : VW) : Pw.A :=
  (A.seq (A.reg (Pw.rn 2 RA.done))
   (A.seq (A.seq (A.reg (Pw.rn 8 RA.done))
   (A.cond (A.seq (A.reg (RA.run RA.done))
   A.leaf)
   A.leaf))
   (A.seq (A.seq (A.reg (Pw.rn 4 RA.done))
   (A.blk (A.loop [1, 14, 15, 16] (Cp_fits_P0 Kv) (A.seq (A.reg (RA.run RA.done))
   (A.seq (A.cond A.leaf
   A.leaf)
   (A.seq (A.blk (A.seq (A.reg (Pw.rn 5 RA.done))
   (A.seq (A.drp (DA.pur 0 (DA.pur 1 (DA.pur 2 (DA.spl 23 (DA.skp 3 (DA.skp 4 (DA.skp 5 (DA.skp 6 (DA.skp 7 (DA.skp 8 (DA.pur 9 (DA.pur 10 (DA.skp 11 (DA.skp 12 (DA.skp 13 (DA.skp 14 (DA.skp 15 (DA.skp 16 (DA.skp 17 (DA.skp 18 (DA.skp 19 (DA.skp 20 (DA.skp 21 (DA.skp 22 (DA.skp 23 (DA.skp 24 (DA.skp 25 (DA.skp 26 (DA.skp 27 (DA.skp 28 (DA.pur 29 DA.done))))))))))))))))))))))))))) (DA.pur 3 (DA.pur 4 (DA.pur 5 (DA.pur 6 (DA.pur 7 (DA.pur 8 (DA.pur 9 (DA.pur 10 (DA.spl 31 (DA.skp 11 (DA.skp 12 (DA.skp 13 (DA.skp 14 (DA.skp 15 (DA.skp 16 (DA.skp 17 (DA.skp 18 (DA.skp 19 (DA.skp 20 (DA.skp 21 (DA.skp 22 (DA.skp 23 (DA.skp 24 (DA.skp 25 (DA.skp 26 (DA.skp 27 (DA.skp 28 (DA.pur 29 DA.done))))))))))))))))))) (DA.pur 11 (DA.pur 12 (DA.pur 13 (DA.spl 34 (DA.pur 14 (DA.pur 15 (DA.pur 16 (DA.pur 17 (DA.pur 18 (DA.pur 19 (DA.pur 20 (DA.pur 21 (DA.pur 22 (DA.pur 23 (DA.pur 24 (DA.pur 25 (DA.pur 26 (DA.pur 27 (DA.pur 28 (DA.pur 29 DA.done)))))))))))))))) (DA.skp 14 (DA.skp 15 (DA.skp 16 (DA.skp 17 (DA.skp 18 (DA.skp 19 (DA.skp 20 (DA.skp 21 (DA.skp 22 (DA.skp 23 (DA.skp 24 (DA.skp 25 (DA.skp 26 (DA.skp 27 (DA.pur 28 (DA.pur 29 DA.done))))))))))))))))))))))))))))))))))
   (A.cond (A.seq (A.reg (RA.run RA.done))
   A.leaf)
   A.leaf))))
   (A.reg (Pw.rn 2 RA.done))))))))
   (A.seq (A.reg (RA.run RA.done))
   A.leaf))))
noncomputable def Cp_fits_O (Kv : VW) : List Ob := (obs Try.prog Cp_fits_E 52 (Cp_fits_A Kv) Cp_fits_C (fun _ => retQ Try.prog Try.f31.results Kv))
theorem Cp_fits_e (Kv : VW) (f_0_0p : Option Addr) (f_0_0l f_0_0c : Nat) (f_0_1p : Option Addr) (f_0_1l f_0_1c : Nat) (f_0_2p : Option Addr) (f_0_2l f_0_2c : Nat) (f_0_3 f_0_4 : Int) (f_0_5p : Option Addr) (f_0_5l f_0_5c : Nat) (w : World) : Cp_fits_sd ⟨f_0_0p, f_0_0l, f_0_0c⟩ ⟨f_0_1p, f_0_1l, f_0_1c⟩ ⟨f_0_2p, f_0_2l, f_0_2c⟩ f_0_3 f_0_4 ⟨f_0_5p, f_0_5l, f_0_5c⟩ (fun r0 w' => Kv (Value.bool r0) w') w = W Try.prog Cp_fits_E 52 (Cp_fits_A Kv) Cp_fits_C [] (retQ Try.prog Try.f31.results Kv) [] (startS [(Value.agg #[(Value.slice f_0_0p f_0_0l f_0_0c), (Value.slice f_0_1p f_0_1l f_0_1c), (Value.slice f_0_2p f_0_2l f_0_2c), (Value.int .i64 f_0_3), (Value.int .i64 f_0_4), (Value.slice f_0_5p f_0_5l f_0_5c)])]) w := by kernel_rfl
theorem Cp_fits_e0 (Kv : VW) (N0 : List Value -> World -> Prop) (ρ : Rho) (f_1 : Addr) (t_14p : Option Addr) (t_14l t_14c : Nat) (t_15 t_16 : Int) (w : World) : Cp_fits_b0 f_1 ⟨t_14p, t_14l, t_14c⟩ t_15 t_16 (fun f_1' t_14' t_15' t_16' w' => N0 [(Value.pointer (some f_1')), (Value.slice t_14'.p t_14'.l t_14'.c), (Value.int .i64 t_15'), (Value.int .i64 t_16')] w') (fun r0 w' => Kv (Value.bool r0) w') w = goalAt Try.prog Cp_fits_E 52 (Cp_fits_O Kv) 0 (N0 :: ρ) [(Value.pointer (some f_1)), (Value.slice t_14p t_14l t_14c), (Value.int .i64 t_15), (Value.int .i64 t_16)] w := by kernel_rfl
theorem Cp_fits_q0 (Kv : VW) (ρ : Rho) (vs : List Value) (w : World) : labAt (Cp_fits_O Kv) 0 ρ vs w = Cp_fits_P0 Kv ρ vs w := by kernel_rfl
def Cp_fits_I0 (f_10 : Addr) (t_140 : Sl) (t_150 : Int) (I : Int -> World -> Prop) (vs : List Value) (w : World) : Prop :=
  match vs with
  | [.pointer (some f_1), .slice t_14p t_14l t_14c, .int .i64 t_15, .int .i64 t_16] => (f_1 = f_10 /\ ⟨t_14p, t_14l, t_14c⟩ = t_140 /\ t_15 = t_150 /\ True) /\ I t_16 w
  | _ => False
def Cp_fits_M0 (μ : Int -> World -> Nat) (vs : List Value) (w : World) : Nat :=
  match vs with
  | [.pointer (some _f_1), .slice _t_14p _t_14l _t_14c, .int .i64 _t_15, .int .i64 t_16] => μ t_16 w
  | _ => 0
theorem Cp_fits_h0 (Kv : VW) : holdsAt Try.prog Cp_fits_E 52 (Cp_fits_O Kv) 0 := holdsAt_loop (by kernel_rfl) (fun ρ vs w h => by
  rw [Cp_fits_q0] at h
  unfold Cp_fits_P0 at h
  split at h
  · rename_i ρt f_1 t_14p t_14l t_14c t_15 t_16
    obtain ⟨I, μ, h0, hr⟩ := h.out
    refine ⟨Cp_fits_I0 f_1 ⟨t_14p, t_14l, t_14c⟩ t_15 I, Cp_fits_M0 μ, ⟨⟨rfl, rfl, rfl, trivial⟩, h0⟩, fun vs w hI => ?_⟩
    unfold Cp_fits_I0 at hI
    split at hI
    · obtain ⟨⟨h0, h1, h2, _⟩, hI⟩ := hI
      cases h0; cases h1; cases h2
      rw [← Cp_fits_e0]
      exact hr _ _ hI
    · exact hI.elim
  · exact h.elim)
theorem Cp_fits_n (Kv : VW) : obAt (Cp_fits_O Kv) 1 = none := by kernel_rfl
theorem Cp_fits_h (Kv : VW) : ∀ k, holdsAt Try.prog Cp_fits_E 52 (Cp_fits_O Kv) k := fun k => match k with
  | 0 => Cp_fits_h0 Kv
  | _k + 1 => holdsAt_ge (Cp_fits_n Kv) (Nat.le_add_left _ _)
theorem Cp_fits_ok : Sound Try.prog 31 Cp_fits_S := ⟨Try.call31, fun vs w Kv h => by
  unfold Cp_fits_S at h
  split at h
  · have h := h.out
    rw [Cp_fits_e] at h
    exact calls_sound (Γ := Cp_fits_E) progMixed trivial Try.func31 (code := Cp_fits_C) (by kernel_rfl) (Cp_fits_A Kv) Kv (holds_all (Cp_fits_h Kv)) (Nat.le_of_ble_eq_true (by kernel_rfl)) h
  · exact h.elim⟩
/-! Cp_permitted -/
def Cp_permitted_sd (f_0_0 f_0_1 f_0_2 : Sl) (f_0_3 f_0_4 : Int) (f_0_5 : Sl) (K : Bool -> World -> Prop) (w : World) : Prop :=
  let w1 := w.alloc (Obj.cells #[(Value.slice f_0_0.p f_0_0.l f_0_0.c), (Value.slice f_0_1.p f_0_1.l f_0_1.c), (Value.slice f_0_2.p f_0_2.l f_0_2.c), (Value.int .i64 f_0_3), (Value.int .i64 f_0_4), (Value.slice f_0_5.p f_0_5.l f_0_5.c)] 65)
  let w2 := w1.drew
  ∃ S3 : World -> Prop, S3 w2 /\ ∃ x4 : Sl, (∀ w' : World, S3 w' -> w'.cell? (Addr.mk w.heap.size 0 none) = some (Value.slice x4.p x4.l x4.c)) /\ ∃ x5 : Sl, (∀ w' : World, S3 w' -> w'.cell? (Addr.mk w.heap.size 1 none) = some (Value.slice x5.p x5.l x5.c)) /\ ∃ x6 : Sl, (∀ w' : World, S3 w' -> w'.cell? (Addr.mk w.heap.size 2 none) = some (Value.slice x6.p x6.l x6.c)) /\ ∃ x7 : Int, (∀ w' : World, S3 w' -> w'.cell? (Addr.mk w.heap.size 3 none) = some (Value.int .i64 x7)) /\ ∃ x8 : Int, (∀ w' : World, S3 w' -> w'.cell? (Addr.mk w.heap.size 4 none) = some (Value.int .i64 x8)) /\ ∃ x9 : Sl, (∀ w' : World, S3 w' -> w'.cell? (Addr.mk w.heap.size 5 none) = some (Value.slice x9.p x9.l x9.c)) /\ Cp_fits_sh x4 x5 x6 x7 x8 x9 (fun r11 w10 => S3 w10 /\ cnd r11
    (∃ x12 : Sl, (∀ w' : World, S3 w' -> w'.cell? (Addr.mk w.heap.size 0 none) = some (Value.slice x12.p x12.l x12.c)) /\ ∃ x13 : Sl, (∀ w' : World, S3 w' -> w'.cell? (Addr.mk w.heap.size 1 none) = some (Value.slice x13.p x13.l x13.c)) /\ ∃ x14 : Sl, (∀ w' : World, S3 w' -> w'.cell? (Addr.mk w.heap.size 2 none) = some (Value.slice x14.p x14.l x14.c)) /\ ∃ x15 : Int, (∀ w' : World, S3 w' -> w'.cell? (Addr.mk w.heap.size 3 none) = some (Value.int .i64 x15)) /\ ∃ x16 : Int, (∀ w' : World, S3 w' -> w'.cell? (Addr.mk w.heap.size 4 none) = some (Value.int .i64 x16)) /\ ∃ x17 : Sl, (∀ w' : World, S3 w' -> w'.cell? (Addr.mk w.heap.size 5 none) = some (Value.slice x17.p x17.l x17.c)) /\ ∃ x18 : Int, (∀ w' : World, S3 w' -> w'.cell? (Addr.mk w.heap.size 4 none) = some (Value.int .i64 x18)) /\ Cp_least_sh x12 x13 x14 x15 x16 x17 (fun r20 w19 => S3 w19 /\ cnd (decide (r20 <= x18))
    (∃ x21 : Sl, (∀ w' : World, S3 w' -> w'.cell? (Addr.mk w.heap.size 0 none) = some (Value.slice x21.p x21.l x21.c)) /\ ∃ x22 : Sl, (∀ w' : World, S3 w' -> w'.cell? (Addr.mk w.heap.size 1 none) = some (Value.slice x22.p x22.l x22.c)) /\ ∃ x23 : Sl, (∀ w' : World, S3 w' -> w'.cell? (Addr.mk w.heap.size 2 none) = some (Value.slice x23.p x23.l x23.c)) /\ ∃ x24 : Int, (∀ w' : World, S3 w' -> w'.cell? (Addr.mk w.heap.size 3 none) = some (Value.int .i64 x24)) /\ ∃ x25 : Int, (∀ w' : World, S3 w' -> w'.cell? (Addr.mk w.heap.size 4 none) = some (Value.int .i64 x25)) /\ ∃ x26 : Sl, (∀ w' : World, S3 w' -> w'.cell? (Addr.mk w.heap.size 5 none) = some (Value.slice x26.p x26.l x26.c)) /\ Cp_crowded_sh x21 x22 x23 x24 x25 x26 (fun r28 w27 => S3 w27 /\ K (!r28) w27) w19)
    (K false w19)) w10)
    (K false w10)) w2
structure Cp_permitted_sh (f_0_0 f_0_1 f_0_2 : Sl) (f_0_3 f_0_4 : Int) (f_0_5 : Sl) (K : Bool -> World -> Prop) (w : World) : Prop where
  out : Cp_permitted_sd f_0_0 f_0_1 f_0_2 f_0_3 f_0_4 f_0_5 K w
noncomputable def Cp_permitted_S : Pw.Spec := fun vs w Kv =>
  match vs with
  | [.agg ⟨[.slice f_0_0p f_0_0l f_0_0c, .slice f_0_1p f_0_1l f_0_1c, .slice f_0_2p f_0_2l f_0_2c, .int .i64 f_0_3, .int .i64 f_0_4, .slice f_0_5p f_0_5l f_0_5c]⟩] => Cp_permitted_sh ⟨f_0_0p, f_0_0l, f_0_0c⟩ ⟨f_0_1p, f_0_1l, f_0_1c⟩ ⟨f_0_2p, f_0_2l, f_0_2c⟩ f_0_3 f_0_4 ⟨f_0_5p, f_0_5l, f_0_5c⟩ (fun r0 w' => Kv (Value.bool r0) w') w
  | _ => False
noncomputable def Cp_permitted_E : Pw.Env := [(31, Cp_fits_S), (32, Cp_least_S), (49, Cp_crowded_S)]
noncomputable def Cp_permitted_C : Code := (Try.f29.body).getD .skip
noncomputable def Cp_permitted_A (_Kv : VW) : Pw.A :=
  (A.seq (A.reg (Pw.rn 2 RA.done))
   (A.seq (A.drw (DA.pur 0 (DA.eff 1 (DA.pur 2 (DA.spl 5 (DA.pur 3 (DA.pur 5 (DA.pur 6 (DA.pur 7 (DA.eff 4 (DA.pur 8 (DA.pur 9 (DA.pur 10 (DA.spl 13 (DA.pur 11 (DA.eff 12 (DA.pur 13 (DA.pur 14 (DA.pur 15 DA.done))))) (DA.skp 11 (DA.skp 12 (DA.skp 13 (DA.pur 14 (DA.pur 15 DA.done)))))))))))))) (DA.skp 3 (DA.skp 5 (DA.skp 6 (DA.skp 7 (DA.skp 4 (DA.skp 8 (DA.pur 9 (DA.pur 10 (DA.skp 11 (DA.skp 12 (DA.skp 13 (DA.pur 14 (DA.pur 15 DA.done))))))))))))))))))
   A.leaf))
noncomputable def Cp_permitted_O (Kv : VW) : List Ob := (obs Try.prog Cp_permitted_E 18 (Cp_permitted_A Kv) Cp_permitted_C (fun _ => retQ Try.prog Try.f29.results Kv))
theorem Cp_permitted_e (Kv : VW) (f_0_0p : Option Addr) (f_0_0l f_0_0c : Nat) (f_0_1p : Option Addr) (f_0_1l f_0_1c : Nat) (f_0_2p : Option Addr) (f_0_2l f_0_2c : Nat) (f_0_3 f_0_4 : Int) (f_0_5p : Option Addr) (f_0_5l f_0_5c : Nat) (w : World) : Cp_permitted_sd ⟨f_0_0p, f_0_0l, f_0_0c⟩ ⟨f_0_1p, f_0_1l, f_0_1c⟩ ⟨f_0_2p, f_0_2l, f_0_2c⟩ f_0_3 f_0_4 ⟨f_0_5p, f_0_5l, f_0_5c⟩ (fun r0 w' => Kv (Value.bool r0) w') w = W Try.prog Cp_permitted_E 18 (Cp_permitted_A Kv) Cp_permitted_C [] (retQ Try.prog Try.f29.results Kv) [] (startS [(Value.agg #[(Value.slice f_0_0p f_0_0l f_0_0c), (Value.slice f_0_1p f_0_1l f_0_1c), (Value.slice f_0_2p f_0_2l f_0_2c), (Value.int .i64 f_0_3), (Value.int .i64 f_0_4), (Value.slice f_0_5p f_0_5l f_0_5c)])]) w := by kernel_rfl
theorem Cp_permitted_n (Kv : VW) : obAt (Cp_permitted_O Kv) 0 = none := by kernel_rfl
theorem Cp_permitted_h (Kv : VW) : ∀ k, holdsAt Try.prog Cp_permitted_E 18 (Cp_permitted_O Kv) k := fun _ => holdsAt_ge (Cp_permitted_n Kv) (Nat.zero_le _)
theorem Cp_permitted_ok : Sound Try.prog 29 Cp_permitted_S := ⟨Try.call29, fun vs w Kv h => by
  unfold Cp_permitted_S at h
  split at h
  · have h := h.out
    rw [Cp_permitted_e] at h
    exact calls_sound (Γ := Cp_permitted_E) progMixed ⟨.inl Cp_fits_ok, .inl Cp_least_ok, .inl Cp_crowded_ok, trivial⟩ Try.func29 (code := Cp_permitted_C) (by kernel_rfl) (Cp_permitted_A Kv) Kv (holds_all (Cp_permitted_h Kv)) (Nat.le_of_ble_eq_true (by kernel_rfl)) h
  · exact h.elim⟩
end Go.Proofs.Ytmkjcheafdionaa
