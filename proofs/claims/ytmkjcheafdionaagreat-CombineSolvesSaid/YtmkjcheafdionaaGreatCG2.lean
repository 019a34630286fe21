/- The bodies' formulas, by program. -/
import Derived.Test.YtmkjcheafdionaaGreatProg
import Derived.KernelRfl
import Derived.Test.YtmkjcheafdionaaGreatPwX
import Derived.Test.YtmkjcheafdionaaGreatCG0
import Derived.Test.YtmkjcheafdionaaGreatCG1
set_option maxRecDepth 20000
namespace Go.Proofs.YtmkjcheafdionaaGreat
open Go Pw
/-! slices_Index -/
def z0s_b0 (s_0 : Sl) (v_1 t_7 t_8 : Int) (N0 : Sl -> Int -> Int -> Int -> World -> Prop) (K : Pw.T1) (w : World) : Prop :=
  cnd (decide (t_8 < t_7))
    (nz s_0.p fun a1 => (0 <= t_8 /\ t_8 < (s_0.l : Nat)) /\ ∃ x2 : Int, w.cell? (a1.add (t_8.toNat * 1)) = some (Value.int .i64 x2) /\ cnd (v_1 == x2)
    (K t_8 w)
    (inR .i64 (t_8 + (1 : Int)) /\ N0 s_0 v_1 t_7 (t_8 + (1 : Int)) w))
    (K (-1 : Int) w)
def z0s_l0d (s_0 : Sl) (v_1 t_7 t_8 : Int) (K : Pw.T1) (w : World) : Prop :=
  ∃ (I : Int -> World -> Prop) (μ : Int -> World -> Nat), I t_8 w /\ ∀ (t_81 : Int) (w1 : World), I t_81 w1 ->
    z0s_b0 s_0 v_1 t_7 t_81 (fun s_0' v_1' t_7' t_8' w' => ((s_0' = s_0 /\ v_1' = v_1 /\ t_7' = t_7 /\ True) /\ I t_8' w') /\ μ t_8' w' < μ t_81 w1) K w1
structure z0s_l0 (s_0 : Sl) (v_1 t_7 t_8 : Int) (K : Pw.T1) (w : World) : Prop where
  out : z0s_l0d s_0 v_1 t_7 t_8 K w
def z0s_sd (s_0 : Sl) (v_1 : Int) (K : Pw.T1) (w : World) : Prop :=
  z0s_l0 s_0 v_1 (s_0.l : Int) (0 : Int) K w
structure z0s_sh (s_0 : Sl) (v_1 : Int) (K : Pw.T1) (w : World) : Prop where
  out : z0s_sd s_0 v_1 K w
def z0s_P0 (Kv : VW) (ρ : Rho) (vs : List Value) (w : World) : Prop :=
  match ρ, vs with
  | _, [.slice s_0p s_0l s_0c, .int .i64 v_1, .int .i64 t_7, .int .i64 t_8] => z0s_l0 ⟨s_0p, s_0l, s_0c⟩ v_1 t_7 t_8 (Pw.kI Kv) w
  | _, _ => False
noncomputable def z0s_S : Pw.Spec := fun vs w Kv =>
  match vs with
  | [.slice s_0p s_0l s_0c, .int .i64 v_1] => z0s_sh ⟨s_0p, s_0l, s_0c⟩ v_1 (Pw.kI Kv) w
  | _ => False
noncomputable def z0s_E : Pw.Env := []
noncomputable def z0s_C : Code := (Tryz.f72.body).getD .skip
noncomputable def z0s_A (Kv : VW) : Pw.A :=
  (A.seq (A.reg (RA.run RA.done))
   (A.seq (A.seq (A.reg (Pw.rn 3 RA.done))
   (A.blk (A.loop [0, 1, 7, 8] (z0s_P0 Kv) (A.seq (A.reg (RA.run RA.done))
   (A.seq (A.cond A.leaf
   A.leaf)
   (A.seq (A.blk (A.seq (A.reg (Pw.rn 2 RA.done))
   (A.seq (A.reg (Pw.rn 6 RA.done))
   (A.cond (A.seq (A.reg (Pw.rn 2 RA.done))
   A.leaf)
   A.leaf))))
   (A.reg (Pw.rn 2 RA.done))))))))
   (A.seq (A.reg (RA.run RA.done))
   A.leaf)))
noncomputable def z0s_O (Kv : VW) : List Ob := (obs Tryz.prog z0s_E 19 (z0s_A Kv) z0s_C (fun _ => retQ Tryz.prog Tryz.f72.results Kv))
theorem z0s_e (Kv : VW) (s_0p : Option Addr) (s_0l s_0c : Nat) (v_1 : Int) (w : World) : z0s_sd ⟨s_0p, s_0l, s_0c⟩ v_1 (Pw.kI Kv) w = W Tryz.prog z0s_E 19 (z0s_A Kv) z0s_C [] (retQ Tryz.prog Tryz.f72.results Kv) [] (startS [(Value.slice s_0p s_0l s_0c), (Value.int .i64 v_1)]) w := by kernel_rfl
theorem z0s_e0 (Kv : VW) (N0 : List Value -> World -> Prop) (ρ : Rho) (s_0p : Option Addr) (s_0l s_0c : Nat) (v_1 t_7 t_8 : Int) (w : World) : z0s_b0 ⟨s_0p, s_0l, s_0c⟩ v_1 t_7 t_8 (fun s_0' v_1' t_7' t_8' w' => N0 [(Value.slice s_0'.p s_0'.l s_0'.c), (Value.int .i64 v_1'), (Value.int .i64 t_7'), (Value.int .i64 t_8')] w') (Pw.kI Kv) w = goalAt Tryz.prog z0s_E 19 (z0s_O Kv) 0 (N0 :: ρ) [(Value.slice s_0p s_0l s_0c), (Value.int .i64 v_1), (Value.int .i64 t_7), (Value.int .i64 t_8)] w := by kernel_rfl
theorem z0s_q0 (Kv : VW) (ρ : Rho) (vs : List Value) (w : World) : labAt (z0s_O Kv) 0 ρ vs w = z0s_P0 Kv ρ vs w := by kernel_rfl
def z0s_I0 (s_00 : Sl) (v_10 t_70 : Int) (I : Int -> World -> Prop) (vs : List Value) (w : World) : Prop :=
  match vs with
  | [.slice s_0p s_0l s_0c, .int .i64 v_1, .int .i64 t_7, .int .i64 t_8] => (⟨s_0p, s_0l, s_0c⟩ = s_00 /\ v_1 = v_10 /\ t_7 = t_70 /\ True) /\ I t_8 w
  | _ => False
def z0s_M0 (μ : Int -> World -> Nat) (vs : List Value) (w : World) : Nat :=
  match vs with
  | [.slice _s_0p _s_0l _s_0c, .int .i64 _v_1, .int .i64 _t_7, .int .i64 t_8] => μ t_8 w
  | _ => 0
theorem z0s_h0 (Kv : VW) : holdsAt Tryz.prog z0s_E 19 (z0s_O Kv) 0 := holdsAt_loop (by kernel_rfl) (fun ρ vs w h => by
  rw [z0s_q0] at h
  unfold z0s_P0 at h
  split at h
  . rename_i ρt s_0p s_0l s_0c v_1 t_7 t_8
    obtain ⟨I, μ, h0, hr⟩ := h.out
    refine ⟨z0s_I0 ⟨s_0p, s_0l, s_0c⟩ v_1 t_7 I, z0s_M0 μ, ⟨⟨rfl, rfl, rfl, trivial⟩, h0⟩, fun vs w hI => ?_⟩
    unfold z0s_I0 at hI
    split at hI
    . obtain ⟨⟨h0, h1, h2, _⟩, hI⟩ := hI
      cases h0; cases h1; cases h2
      rw [← z0s_e0]
      exact hr _ _ hI
    . exact hI.elim
  . exact h.elim)
theorem z0s_n (Kv : VW) : obAt (z0s_O Kv) 1 = none := by kernel_rfl
theorem z0s_h (Kv : VW) : ∀ k, holdsAt Tryz.prog z0s_E 19 (z0s_O Kv) k := fun k => match k with
  | 0 => z0s_h0 Kv
  | _k + 1 => holdsAt_ge (z0s_n Kv) (Nat.le_add_left _ _)
theorem z0s_ok : Sound Tryz.prog 72 z0s_S := ⟨Tryz.call72, fun vs w Kv h => by
  unfold z0s_S at h
  split at h
  . have h := h.out
    rw [z0s_e] at h
    exact calls_sound (Γ := z0s_E) progMixed trivial Tryz.func72 (code := z0s_C) (by kernel_rfl) (z0s_A Kv) Kv (holds_all (z0s_h Kv)) (Nat.le_of_ble_eq_true (by kernel_rfl)) h
  . exact h.elim⟩
/-! slices_Contains -/
def z0f_sd (s_0 : Sl) (v_1 : Int) (K : Pw.T0) (w : World) : Prop :=
  z0s_sh s_0 v_1 (fun r2 w1 => K (decide (r2 >= (0 : Int))) w1) w
structure z0f_sh (s_0 : Sl) (v_1 : Int) (K : Pw.T0) (w : World) : Prop where
  out : z0f_sd s_0 v_1 K w
noncomputable def z0f_S : Pw.Spec := fun vs w Kv =>
  match vs with
  | [.slice s_0p s_0l s_0c, .int .i64 v_1] => z0f_sh ⟨s_0p, s_0l, s_0c⟩ v_1 (Pw.kB Kv) w
  | _ => False
noncomputable def z0f_E : Pw.Env := [(72, z0s_S)]
noncomputable def z0f_C : Code := (Tryz.f47.body).getD .skip
noncomputable def z0f_A (_Kv : VW) : Pw.A :=
  (A.seq (A.reg (RA.run RA.done))
   (A.seq (A.reg (Pw.rn 5 RA.done))
   A.leaf))
noncomputable def z0f_O (Kv : VW) : List Ob := (obs Tryz.prog z0f_E 9 (z0f_A Kv) z0f_C (fun _ => retQ Tryz.prog Tryz.f47.results Kv))
theorem z0f_e (Kv : VW) (s_0p : Option Addr) (s_0l s_0c : Nat) (v_1 : Int) (w : World) : z0f_sd ⟨s_0p, s_0l, s_0c⟩ v_1 (Pw.kB Kv) w = W Tryz.prog z0f_E 9 (z0f_A Kv) z0f_C [] (retQ Tryz.prog Tryz.f47.results Kv) [] (startS [(Value.slice s_0p s_0l s_0c), (Value.int .i64 v_1)]) w := by kernel_rfl
theorem z0f_n (Kv : VW) : obAt (z0f_O Kv) 0 = none := by kernel_rfl
theorem z0f_h (Kv : VW) : ∀ k, holdsAt Tryz.prog z0f_E 9 (z0f_O Kv) k := fun _ => holdsAt_ge (z0f_n Kv) (Nat.zero_le _)
theorem z0f_ok : Sound Tryz.prog 47 z0f_S := ⟨Tryz.call47, fun vs w Kv h => by
  unfold z0f_S at h
  split at h
  . have h := h.out
    rw [z0f_e] at h
    exact calls_sound (Γ := z0f_E) progMixed ⟨.inl z0s_ok, trivial⟩ Tryz.func47 (code := z0f_C) (by kernel_rfl) (z0f_A Kv) Kv (holds_all (z0f_h Kv)) (Nat.le_of_ble_eq_true (by kernel_rfl)) h
  . exact h.elim⟩
/-! z2g_1 -/
def z1b_sd (id_0 : Int) (t_1 : Addr) (K : Pw.T0) (w : World) : Prop :=
  ∃ x1 : Sl, w.cell? t_1 = some (Value.slice x1.p x1.l x1.c) /\ z0f_sh x1 id_0 (fun r3 w2 => K r3 w2) w
structure z1b_sh (id_0 : Int) (t_1 : Addr) (K : Pw.T0) (w : World) : Prop where
  out : z1b_sd id_0 t_1 K w
noncomputable def z1b_S : Pw.Spec := fun vs w Kv =>
  match vs with
  | [.int .i64 id_0, .pointer (some t_1)] => z1b_sh id_0 t_1 (Pw.kB Kv) w
  | _ => False
noncomputable def z1b_E : Pw.Env := [(47, z0f_S)]
noncomputable def z1b_C : Code := (Tryz.f46.body).getD .skip
noncomputable def z1b_A (_Kv : VW) : Pw.A :=
  (A.seq (A.reg (RA.run RA.done))
   (A.seq (A.reg (Pw.rn 5 RA.done))
   A.leaf))
noncomputable def z1b_O (Kv : VW) : List Ob := (obs Tryz.prog z1b_E 8 (z1b_A Kv) z1b_C (fun _ => retQ Tryz.prog Tryz.f46.results Kv))
theorem z1b_e (Kv : VW) (id_0 : Int) (t_1 : Addr) (w : World) : z1b_sd id_0 t_1 (Pw.kB Kv) w = W Tryz.prog z1b_E 8 (z1b_A Kv) z1b_C [] (retQ Tryz.prog Tryz.f46.results Kv) [] (startS [(Value.int .i64 id_0), (Value.pointer (some t_1))]) w := by kernel_rfl
theorem z1b_n (Kv : VW) : obAt (z1b_O Kv) 0 = none := by kernel_rfl
theorem z1b_h (Kv : VW) : ∀ k, holdsAt Tryz.prog z1b_E 8 (z1b_O Kv) k := fun _ => holdsAt_ge (z1b_n Kv) (Nat.zero_le _)
theorem z1b_ok : Sound Tryz.prog 46 z1b_S := ⟨Tryz.call46, fun vs w Kv h => by
  unfold z1b_S at h
  split at h
  . have h := h.out
    rw [z1b_e] at h
    exact calls_sound (Γ := z1b_E) progMixed ⟨.inl z0f_ok, trivial⟩ Tryz.func46 (code := z1b_C) (by kernel_rfl) (z1b_A Kv) Kv (holds_all (z1b_h Kv)) (Nat.le_of_ble_eq_true (by kernel_rfl)) h
  . exact h.elim⟩
/-! Cb_within -/
def z25_sd (n_0 most_1 : Int) (K : Pw.T0) (w : World) : Prop :=
  cnd (decide (n_0 >= (0 : Int)))
    (K (decide (n_0 <= most_1)) w)
    (K false w)
structure z25_sh (n_0 most_1 : Int) (K : Pw.T0) (w : World) : Prop where
  out : z25_sd n_0 most_1 K w
noncomputable def z25_S : Pw.Spec := fun vs w Kv =>
  match vs with
  | [.int .i64 n_0, .int .i64 most_1] => z25_sh n_0 most_1 (Pw.kB Kv) w
  | _ => False
noncomputable def z25_E : Pw.Env := []
noncomputable def z25_C : Code := (Tryz.f29.body).getD .skip
noncomputable def z25_A (_Kv : VW) : Pw.A :=
  (A.seq (A.reg (RA.run RA.done))
   (A.seq (A.reg (Pw.rn 3 (RA.spl 7 (Pw.rn 5 RA.done) (Pw.sk 3 (Pw.rn 2 RA.done)))))
   A.leaf))
noncomputable def z25_O (Kv : VW) : List Ob := (obs Tryz.prog z25_E 12 (z25_A Kv) z25_C (fun _ => retQ Tryz.prog Tryz.f29.results Kv))
theorem z25_e (Kv : VW) (n_0 most_1 : Int) (w : World) : z25_sd n_0 most_1 (Pw.kB Kv) w = W Tryz.prog z25_E 12 (z25_A Kv) z25_C [] (retQ Tryz.prog Tryz.f29.results Kv) [] (startS [(Value.int .i64 n_0), (Value.int .i64 most_1)]) w := by kernel_rfl
theorem z25_n (Kv : VW) : obAt (z25_O Kv) 0 = none := by kernel_rfl
theorem z25_h (Kv : VW) : ∀ k, holdsAt Tryz.prog z25_E 12 (z25_O Kv) k := fun _ => holdsAt_ge (z25_n Kv) (Nat.zero_le _)
theorem z25_ok : Sound Tryz.prog 29 z25_S := ⟨Tryz.call29, fun vs w Kv h => by
  unfold z25_S at h
  split at h
  . have h := h.out
    rw [z25_e] at h
    exact calls_sound (Γ := z25_E) progMixed trivial Tryz.func29 (code := z25_C) (by kernel_rfl) (z25_A Kv) Kv (holds_all (z25_h Kv)) (Nat.le_of_ble_eq_true (by kernel_rfl)) h
  . exact h.elim⟩
/-! z2g_2 -/
def z1h_sd (c_0_0 c_0_1 : Int) (c_0_2 c_0_3 : Int) (t_1 : Addr) (K : Pw.T0) (w : World) : Prop :=
  let w1 := w.alloc (Obj.cells #[(Value.int .i64 c_0_0), (Value.int .i64 c_0_1), (Value.int .i64 c_0_2), (Value.int .i64 c_0_3)] 65)
  ∃ x2 : Value, w1.cell? t_1 = some x2 /\ ∃ x3 : Int, w1.cell? (Addr.mk w.heap.size 0 none) = some (Value.int .i64 x3) /\ CallV Tryz.prog x2 [(Value.int .i64 x3)] w1 fun u4 w5 => ∃ x6 : Bool, u4 = (Value.bool x6) /\ cnd x6
    (∃ x7 : Int, w5.cell? (Addr.mk w.heap.size 2 none) = some (Value.int .i64 x7) /\ z25_sh x7 (1000000000 : Int) (fun r9 w8 => cnd r9
    (∃ x10 : Int, w8.cell? (Addr.mk w.heap.size 3 none) = some (Value.int .i64 x10) /\ z25_sh x10 (1000000 : Int) (fun r12 w11 => K r12 w11) w8)
    (K false w8)) w5)
    (K false w5)
structure z1h_sh (c_0_0 c_0_1 : Int) (c_0_2 c_0_3 : Int) (t_1 : Addr) (K : Pw.T0) (w : World) : Prop where
  out : z1h_sd c_0_0 c_0_1 c_0_2 c_0_3 t_1 K w
noncomputable def z1h_S : Pw.Spec := fun vs w Kv =>
  match vs with
  | [.agg ⟨[.int .i64 c_0_0, .int .i64 c_0_1, .int .i64 c_0_2, .int .i64 c_0_3]⟩, .pointer (some t_1)] => z1h_sh c_0_0 c_0_1 c_0_2 c_0_3 t_1 (Pw.kB Kv) w
  | _ => False
noncomputable def z1h_E : Pw.Env := [(29, z25_S)]
noncomputable def z1h_C : Code := (Tryz.f48.body).getD .skip
noncomputable def z1h_A (_Kv : VW) : Pw.A :=
  (A.seq (A.reg (Pw.rn 2 RA.done))
   (A.seq (A.reg (Pw.rn 3 (RA.dyn (Value.bool false) (RA.run (RA.spl 8 (Pw.rn 5 (RA.spl 13 (Pw.rn 5 RA.done) (Pw.sk 3 (Pw.rn 2 RA.done)))) (Pw.sk 3 (Pw.rn 2 (Pw.sk 3 (Pw.rn 2 RA.done)))))))))
   A.leaf))
noncomputable def z1h_O (Kv : VW) : List Ob := (obs Tryz.prog z1h_E 18 (z1h_A Kv) z1h_C (fun _ => retQ Tryz.prog Tryz.f48.results Kv))
theorem z1h_e (Kv : VW) (c_0_0 c_0_1 : Int) (c_0_2 c_0_3 : Int) (t_1 : Addr) (w : World) : z1h_sd c_0_0 c_0_1 c_0_2 c_0_3 t_1 (Pw.kB Kv) w = W Tryz.prog z1h_E 18 (z1h_A Kv) z1h_C [] (retQ Tryz.prog Tryz.f48.results Kv) [] (startS [(Value.agg #[(Value.int .i64 c_0_0), (Value.int .i64 c_0_1), (Value.int .i64 c_0_2), (Value.int .i64 c_0_3)]), (Value.pointer (some t_1))]) w := by kernel_rfl
theorem z1h_n (Kv : VW) : obAt (z1h_O Kv) 0 = none := by kernel_rfl
theorem z1h_h (Kv : VW) : ∀ k, holdsAt Tryz.prog z1h_E 18 (z1h_O Kv) k := fun _ => holdsAt_ge (z1h_n Kv) (Nat.zero_le _)
theorem z1h_ok : Sound Tryz.prog 48 z1h_S := ⟨Tryz.call48, fun vs w Kv h => by
  unfold z1h_S at h
  split at h
  . have h := h.out
    rw [z1h_e] at h
    exact calls_sound (Γ := z1h_E) progMixed ⟨.inl z25_ok, trivial⟩ Tryz.func48 (code := z1h_C) (by kernel_rfl) (z1h_A Kv) Kv (holds_all (z1h_h Kv)) (Nat.le_of_ble_eq_true (by kernel_rfl)) h
  . exact h.elim⟩
/-! Cb_distinct -/
def z0x_b0 (seen_3 : Nat) (t_7 : Sl) (t_8 t_9 : Int) (N0 : Nat -> Sl -> Int -> Int -> World -> Prop) (K : Pw.T0) (w : World) : Prop :=
  cnd (decide (t_9 < t_8))
    (nz t_7.p fun a2 => (0 <= t_9 /\ t_9 < (t_7.l : Nat)) /\ ∃ x3 : Int, w.cell? (a2.add (t_9.toNat * 1)) = some (Value.int .i64 x3) /\ ∃ l4 : List (Int × Bool), Mp w seen_3 .i64 (l4.map fun p => (p.1, Value.bool p.2)) /\ cnd (mgetD false x3 l4)
    (K false w)
    ((∃ l : List (Int × Value), Mp w seen_3 .i64 l) /\ let w5 := w.mset seen_3 .i64 x3 (Value.bool true)
  inR .i64 (t_9 + (1 : Int)) /\ N0 seen_3 t_7 t_8 (t_9 + (1 : Int)) w5))
    (K true w)
def z0x_l0d (seen_3 : Nat) (t_7 : Sl) (t_8 t_9 : Int) (K : Pw.T0) (w : World) : Prop :=
  ∃ (I : Int -> World -> Prop) (μ : Int -> World -> Nat), I t_9 w /\ ∀ (t_91 : Int) (w1 : World), I t_91 w1 ->
    z0x_b0 seen_3 t_7 t_8 t_91 (fun seen_3' t_7' t_8' t_9' w' => ((seen_3' = seen_3 /\ t_7' = t_7 /\ t_8' = t_8 /\ True) /\ I t_9' w') /\ μ t_9' w' < μ t_91 w1) K w1
structure z0x_l0 (seen_3 : Nat) (t_7 : Sl) (t_8 t_9 : Int) (K : Pw.T0) (w : World) : Prop where
  out : z0x_l0d seen_3 t_7 t_8 t_9 K w
def z0x_sd (l_0 : Sl) (K : Pw.T0) (w : World) : Prop :=
  let w1 := w.alloc (Obj.map #[] 0)
  z0x_l0 w.heap.size l_0 (l_0.l : Int) (0 : Int) K w1
structure z0x_sh (l_0 : Sl) (K : Pw.T0) (w : World) : Prop where
  out : z0x_sd l_0 K w
def z0x_P0 (Kv : VW) (ρ : Rho) (vs : List Value) (w : World) : Prop :=
  match ρ, vs with
  | _, [.map (some seen_3), .slice t_7p t_7l t_7c, .int .i64 t_8, .int .i64 t_9] => z0x_l0 seen_3 ⟨t_7p, t_7l, t_7c⟩ t_8 t_9 (Pw.kB Kv) w
  | _, _ => False
noncomputable def z0x_S : Pw.Spec := fun vs w Kv =>
  match vs with
  | [.slice l_0p l_0l l_0c] => z0x_sh ⟨l_0p, l_0l, l_0c⟩ (Pw.kB Kv) w
  | _ => False
noncomputable def z0x_E : Pw.Env := []
noncomputable def z0x_C : Code := (Tryz.f50.body).getD .skip
noncomputable def z0x_A (Kv : VW) : Pw.A :=
  (A.seq (A.reg (RA.run RA.done))
   (A.seq (A.reg (Pw.rn 2 RA.done))
   (A.seq (A.seq (A.reg (Pw.rn 3 RA.done))
   (A.blk (A.loop [3, 7, 8, 9] (z0x_P0 Kv) (A.seq (A.reg (RA.run RA.done))
   (A.seq (A.cond A.leaf
   A.leaf)
   (A.seq (A.blk (A.seq (A.reg (Pw.rn 3 RA.done))
   (A.seq (A.seq (A.reg (Pw.rn 3 RA.done))
   (A.cond (A.seq (A.reg (RA.run RA.done))
   A.leaf)
   A.leaf))
   (A.reg (Pw.rn 3 RA.done)))))
   (A.reg (Pw.rn 2 RA.done))))))))
   (A.seq (A.reg (RA.run RA.done))
   A.leaf))))
noncomputable def z0x_O (Kv : VW) : List Ob := (obs Tryz.prog z0x_E 19 (z0x_A Kv) z0x_C (fun _ => retQ Tryz.prog Tryz.f50.results Kv))
theorem z0x_e (Kv : VW) (l_0p : Option Addr) (l_0l l_0c : Nat) (w : World) : z0x_sd ⟨l_0p, l_0l, l_0c⟩ (Pw.kB Kv) w = W Tryz.prog z0x_E 19 (z0x_A Kv) z0x_C [] (retQ Tryz.prog Tryz.f50.results Kv) [] (startS [(Value.slice l_0p l_0l l_0c)]) w := by kernel_rfl
theorem z0x_e0 (Kv : VW) (N0 : List Value -> World -> Prop) (ρ : Rho) (seen_3 : Nat) (t_7p : Option Addr) (t_7l t_7c : Nat) (t_8 t_9 : Int) (w : World) : z0x_b0 seen_3 ⟨t_7p, t_7l, t_7c⟩ t_8 t_9 (fun seen_3' t_7' t_8' t_9' w' => N0 [(Value.map (some seen_3')), (Value.slice t_7'.p t_7'.l t_7'.c), (Value.int .i64 t_8'), (Value.int .i64 t_9')] w') (Pw.kB Kv) w = goalAt Tryz.prog z0x_E 19 (z0x_O Kv) 0 (N0 :: ρ) [(Value.map (some seen_3)), (Value.slice t_7p t_7l t_7c), (Value.int .i64 t_8), (Value.int .i64 t_9)] w := by kernel_rfl
theorem z0x_q0 (Kv : VW) (ρ : Rho) (vs : List Value) (w : World) : labAt (z0x_O Kv) 0 ρ vs w = z0x_P0 Kv ρ vs w := by kernel_rfl
def z0x_I0 (seen_30 : Nat) (t_70 : Sl) (t_80 : Int) (I : Int -> World -> Prop) (vs : List Value) (w : World) : Prop :=
  match vs with
  | [.map (some seen_3), .slice t_7p t_7l t_7c, .int .i64 t_8, .int .i64 t_9] => (seen_3 = seen_30 /\ ⟨t_7p, t_7l, t_7c⟩ = t_70 /\ t_8 = t_80 /\ True) /\ I t_9 w
  | _ => False
def z0x_M0 (μ : Int -> World -> Nat) (vs : List Value) (w : World) : Nat :=
  match vs with
  | [.map (some _seen_3), .slice _t_7p _t_7l _t_7c, .int .i64 _t_8, .int .i64 t_9] => μ t_9 w
  | _ => 0
theorem z0x_h0 (Kv : VW) : holdsAt Tryz.prog z0x_E 19 (z0x_O Kv) 0 := holdsAt_loop (by kernel_rfl) (fun ρ vs w h => by
  rw [z0x_q0] at h
  unfold z0x_P0 at h
  split at h
  . rename_i ρt seen_3 t_7p t_7l t_7c t_8 t_9
    obtain ⟨I, μ, h0, hr⟩ := h.out
    refine ⟨z0x_I0 seen_3 ⟨t_7p, t_7l, t_7c⟩ t_8 I, z0x_M0 μ, ⟨⟨rfl, rfl, rfl, trivial⟩, h0⟩, fun vs w hI => ?_⟩
    unfold z0x_I0 at hI
    split at hI
    . obtain ⟨⟨h0, h1, h2, _⟩, hI⟩ := hI
      cases h0; cases h1; cases h2
      rw [← z0x_e0]
      exact hr _ _ hI
    . exact hI.elim
  . exact h.elim)
theorem z0x_n (Kv : VW) : obAt (z0x_O Kv) 1 = none := by kernel_rfl
theorem z0x_h (Kv : VW) : ∀ k, holdsAt Tryz.prog z0x_E 19 (z0x_O Kv) k := fun k => match k with
  | 0 => z0x_h0 Kv
  | _k + 1 => holdsAt_ge (z0x_n Kv) (Nat.le_add_left _ _)
theorem z0x_ok : Sound Tryz.prog 50 z0x_S := ⟨Tryz.call50, fun vs w Kv h => by
  unfold z0x_S at h
  split at h
  . have h := h.out
    rw [z0x_e] at h
    exact calls_sound (Γ := z0x_E) progMixed trivial Tryz.func50 (code := z0x_C) (by kernel_rfl) (z0x_A Kv) Kv (holds_all (z0x_h Kv)) (Nat.le_of_ble_eq_true (by kernel_rfl)) h
  . exact h.elim⟩
/-! z3f_1 -/
def z2n_sd (x_0 : Int) (t_1 : Addr) (K : Pw.T0) (w : World) : Prop :=
  ∃ x1 : Value, w.cell? t_1 = some x1 /\ CallV Tryz.prog x1 [(Value.int .i64 x_0)] w fun u2 w3 => ∃ x4 : Bool, u2 = (Value.bool x4) /\ K (!x4) w3
structure z2n_sh (x_0 : Int) (t_1 : Addr) (K : Pw.T0) (w : World) : Prop where
  out : z2n_sd x_0 t_1 K w
noncomputable def z2n_S : Pw.Spec := fun vs w Kv =>
  match vs with
  | [.int .i64 x_0, .pointer (some t_1)] => z2n_sh x_0 t_1 (Pw.kB Kv) w
  | _ => False
noncomputable def z2n_E : Pw.Env := []
noncomputable def z2n_C : Code := (Tryz.f74.body).getD .skip
noncomputable def z2n_A (_Kv : VW) : Pw.A :=
  (A.seq (A.reg (RA.run RA.done))
   (A.seq (A.reg (Pw.rn 2 (RA.dyn (Value.bool false) (Pw.rn 2 RA.done))))
   A.leaf))
noncomputable def z2n_O (Kv : VW) : List Ob := (obs Tryz.prog z2n_E 8 (z2n_A Kv) z2n_C (fun _ => retQ Tryz.prog Tryz.f74.results Kv))
theorem z2n_e (Kv : VW) (x_0 : Int) (t_1 : Addr) (w : World) : z2n_sd x_0 t_1 (Pw.kB Kv) w = W Tryz.prog z2n_E 8 (z2n_A Kv) z2n_C [] (retQ Tryz.prog Tryz.f74.results Kv) [] (startS [(Value.int .i64 x_0), (Value.pointer (some t_1))]) w := by kernel_rfl
theorem z2n_n (Kv : VW) : obAt (z2n_O Kv) 0 = none := by kernel_rfl
theorem z2n_h (Kv : VW) : ∀ k, holdsAt Tryz.prog z2n_E 8 (z2n_O Kv) k := fun _ => holdsAt_ge (z2n_n Kv) (Nat.zero_le _)
theorem z2n_ok : Sound Tryz.prog 74 z2n_S := ⟨Tryz.call74, fun vs w Kv h => by
  unfold z2n_S at h
  split at h
  . have h := h.out
    rw [z2n_e] at h
    exact calls_sound (Γ := z2n_E) progMixed trivial Tryz.func74 (code := z2n_C) (by kernel_rfl) (z2n_A Kv) Kv (holds_all (z2n_h Kv)) (Nat.le_of_ble_eq_true (by kernel_rfl)) h
  . exact h.elim⟩
/-! slices_IndexFunc -/
def z0a_b0 (s_0 : Sl) (f_1 : Value) (t_7 t_8 : Int) (N0 : Sl -> Value -> Int -> Int -> World -> Prop) (K : Pw.T1) (w : World) : Prop :=
  cnd (decide (t_8 < t_7))
    (nz s_0.p fun a1 => (0 <= t_8 /\ t_8 < (s_0.l : Nat)) /\ ∃ x2 : Int, w.cell? (a1.add (t_8.toNat * 1)) = some (Value.int .i64 x2) /\ CallV Tryz.prog f_1 [(Value.int .i64 x2)] w fun u3 w4 => ∃ x5 : Bool, u3 = (Value.bool x5) /\ cnd x5
    (K t_8 w4)
    (inR .i64 (t_8 + (1 : Int)) /\ N0 s_0 f_1 t_7 (t_8 + (1 : Int)) w4))
    (K (-1 : Int) w)
def z0a_l0d (s_0 : Sl) (f_1 : Value) (t_7 t_8 : Int) (K : Pw.T1) (w : World) : Prop :=
  ∃ (I : Int -> World -> Prop) (μ : Int -> World -> Nat), I t_8 w /\ ∀ (t_81 : Int) (w1 : World), I t_81 w1 ->
    z0a_b0 s_0 f_1 t_7 t_81 (fun s_0' f_1' t_7' t_8' w' => ((s_0' = s_0 /\ f_1' = f_1 /\ t_7' = t_7 /\ True) /\ I t_8' w') /\ μ t_8' w' < μ t_81 w1) K w1
structure z0a_l0 (s_0 : Sl) (f_1 : Value) (t_7 t_8 : Int) (K : Pw.T1) (w : World) : Prop where
  out : z0a_l0d s_0 f_1 t_7 t_8 K w
def z0a_sd (s_0 : Sl) (f_1 : Value) (K : Pw.T1) (w : World) : Prop :=
  z0a_l0 s_0 f_1 (s_0.l : Int) (0 : Int) K w
structure z0a_sh (s_0 : Sl) (f_1 : Value) (K : Pw.T1) (w : World) : Prop where
  out : z0a_sd s_0 f_1 K w
def z0a_P0 (Kv : VW) (ρ : Rho) (vs : List Value) (w : World) : Prop :=
  match ρ, vs with
  | _, [.slice s_0p s_0l s_0c, f_1, .int .i64 t_7, .int .i64 t_8] => z0a_l0 ⟨s_0p, s_0l, s_0c⟩ f_1 t_7 t_8 (Pw.kI Kv) w
  | _, _ => False
noncomputable def z0a_S : Pw.Spec := fun vs w Kv =>
  match vs with
  | [.slice s_0p s_0l s_0c, f_1] => z0a_sh ⟨s_0p, s_0l, s_0c⟩ f_1 (Pw.kI Kv) w
  | _ => False
noncomputable def z0a_E : Pw.Env := []
noncomputable def z0a_C : Code := (Tryz.f93.body).getD .skip
noncomputable def z0a_A (Kv : VW) : Pw.A :=
  (A.seq (A.reg (RA.run RA.done))
   (A.seq (A.seq (A.reg (Pw.rn 3 RA.done))
   (A.blk (A.loop [0, 1, 7, 8] (z0a_P0 Kv) (A.seq (A.reg (RA.run RA.done))
   (A.seq (A.cond A.leaf
   A.leaf)
   (A.seq (A.blk (A.seq (A.reg (Pw.rn 2 RA.done))
   (A.seq (A.reg (Pw.rn 5 (RA.dyn (Value.bool false) RA.done)))
   (A.cond (A.seq (A.reg (Pw.rn 2 RA.done))
   A.leaf)
   A.leaf))))
   (A.reg (Pw.rn 2 RA.done))))))))
   (A.seq (A.reg (RA.run RA.done))
   A.leaf)))
noncomputable def z0a_O (Kv : VW) : List Ob := (obs Tryz.prog z0a_E 19 (z0a_A Kv) z0a_C (fun _ => retQ Tryz.prog Tryz.f93.results Kv))
theorem z0a_e (Kv : VW) (s_0p : Option Addr) (s_0l s_0c : Nat) (f_1 : Value) (w : World) : z0a_sd ⟨s_0p, s_0l, s_0c⟩ f_1 (Pw.kI Kv) w = W Tryz.prog z0a_E 19 (z0a_A Kv) z0a_C [] (retQ Tryz.prog Tryz.f93.results Kv) [] (startS [(Value.slice s_0p s_0l s_0c), f_1]) w := by kernel_rfl
theorem z0a_e0 (Kv : VW) (N0 : List Value -> World -> Prop) (ρ : Rho) (s_0p : Option Addr) (s_0l s_0c : Nat) (f_1 : Value) (t_7 t_8 : Int) (w : World) : z0a_b0 ⟨s_0p, s_0l, s_0c⟩ f_1 t_7 t_8 (fun s_0' f_1' t_7' t_8' w' => N0 [(Value.slice s_0'.p s_0'.l s_0'.c), f_1', (Value.int .i64 t_7'), (Value.int .i64 t_8')] w') (Pw.kI Kv) w = goalAt Tryz.prog z0a_E 19 (z0a_O Kv) 0 (N0 :: ρ) [(Value.slice s_0p s_0l s_0c), f_1, (Value.int .i64 t_7), (Value.int .i64 t_8)] w := by kernel_rfl
theorem z0a_q0 (Kv : VW) (ρ : Rho) (vs : List Value) (w : World) : labAt (z0a_O Kv) 0 ρ vs w = z0a_P0 Kv ρ vs w := by kernel_rfl
def z0a_I0 (s_00 : Sl) (f_10 : Value) (t_70 : Int) (I : Int -> World -> Prop) (vs : List Value) (w : World) : Prop :=
  match vs with
  | [.slice s_0p s_0l s_0c, f_1, .int .i64 t_7, .int .i64 t_8] => (⟨s_0p, s_0l, s_0c⟩ = s_00 /\ f_1 = f_10 /\ t_7 = t_70 /\ True) /\ I t_8 w
  | _ => False
def z0a_M0 (μ : Int -> World -> Nat) (vs : List Value) (w : World) : Nat :=
  match vs with
  | [.slice _s_0p _s_0l _s_0c, _f_1, .int .i64 _t_7, .int .i64 t_8] => μ t_8 w
  | _ => 0
theorem z0a_h0 (Kv : VW) : holdsAt Tryz.prog z0a_E 19 (z0a_O Kv) 0 := holdsAt_loop (by kernel_rfl) (fun ρ vs w h => by
  rw [z0a_q0] at h
  unfold z0a_P0 at h
  split at h
  . rename_i ρt s_0p s_0l s_0c f_1 t_7 t_8
    obtain ⟨I, μ, h0, hr⟩ := h.out
    refine ⟨z0a_I0 ⟨s_0p, s_0l, s_0c⟩ f_1 t_7 I, z0a_M0 μ, ⟨⟨rfl, rfl, rfl, trivial⟩, h0⟩, fun vs w hI => ?_⟩
    unfold z0a_I0 at hI
    split at hI
    . obtain ⟨⟨h0, h1, h2, _⟩, hI⟩ := hI
      cases h0; cases h1; cases h2
      rw [← z0a_e0]
      exact hr _ _ hI
    . exact hI.elim
  . exact h.elim)
theorem z0a_n (Kv : VW) : obAt (z0a_O Kv) 1 = none := by kernel_rfl
theorem z0a_h (Kv : VW) : ∀ k, holdsAt Tryz.prog z0a_E 19 (z0a_O Kv) k := fun k => match k with
  | 0 => z0a_h0 Kv
  | _k + 1 => holdsAt_ge (z0a_n Kv) (Nat.le_add_left _ _)
theorem z0a_ok : Sound Tryz.prog 93 z0a_S := ⟨Tryz.call93, fun vs w Kv h => by
  unfold z0a_S at h
  split at h
  . have h := h.out
    rw [z0a_e] at h
    exact calls_sound (Γ := z0a_E) progMixed trivial Tryz.func93 (code := z0a_C) (by kernel_rfl) (z0a_A Kv) Kv (holds_all (z0a_h Kv)) (Nat.le_of_ble_eq_true (by kernel_rfl)) h
  . exact h.elim⟩
/-! slices_ContainsFunc -/
def z05_sd (s_0 : Sl) (f_1 : Value) (K : Pw.T0) (w : World) : Prop :=
  z0a_sh s_0 f_1 (fun r2 w1 => K (decide (r2 >= (0 : Int))) w1) w
structure z05_sh (s_0 : Sl) (f_1 : Value) (K : Pw.T0) (w : World) : Prop where
  out : z05_sd s_0 f_1 K w
noncomputable def z05_S : Pw.Spec := fun vs w Kv =>
  match vs with
  | [.slice s_0p s_0l s_0c, f_1] => z05_sh ⟨s_0p, s_0l, s_0c⟩ f_1 (Pw.kB Kv) w
  | _ => False
noncomputable def z05_E : Pw.Env := [(93, z0a_S)]
noncomputable def z05_C : Code := (Tryz.f73.body).getD .skip
noncomputable def z05_A (_Kv : VW) : Pw.A :=
  (A.seq (A.reg (RA.run RA.done))
   (A.seq (A.reg (Pw.rn 5 RA.done))
   A.leaf))
noncomputable def z05_O (Kv : VW) : List Ob := (obs Tryz.prog z05_E 9 (z05_A Kv) z05_C (fun _ => retQ Tryz.prog Tryz.f73.results Kv))
theorem z05_e (Kv : VW) (s_0p : Option Addr) (s_0l s_0c : Nat) (f_1 : Value) (w : World) : z05_sd ⟨s_0p, s_0l, s_0c⟩ f_1 (Pw.kB Kv) w = W Tryz.prog z05_E 9 (z05_A Kv) z05_C [] (retQ Tryz.prog Tryz.f73.results Kv) [] (startS [(Value.slice s_0p s_0l s_0c), f_1]) w := by kernel_rfl
theorem z05_n (Kv : VW) : obAt (z05_O Kv) 0 = none := by kernel_rfl
theorem z05_h (Kv : VW) : ∀ k, holdsAt Tryz.prog z05_E 9 (z05_O Kv) k := fun _ => holdsAt_ge (z05_n Kv) (Nat.zero_le _)
theorem z05_ok : Sound Tryz.prog 73 z05_S := ⟨Tryz.call73, fun vs w Kv h => by
  unfold z05_S at h
  split at h
  . have h := h.out
    rw [z05_e] at h
    exact calls_sound (Γ := z05_E) progMixed ⟨.inl z0a_ok, trivial⟩ Tryz.func73 (code := z05_C) (by kernel_rfl) (z05_A Kv) Kv (holds_all (z05_h Kv)) (Nat.le_of_ble_eq_true (by kernel_rfl)) h
  . exact h.elim⟩
/-! Cb_all -/
def z3f_sd (l_0 : Sl) (ok_1 : Value) (K : Pw.T0) (w : World) : Prop :=
  let w1 := w.alloc (Obj.cells (Value.cells ok_1) 84)
  z05_sh l_0 (Value.func (.func 74) #[] #[(Value.pointer (some (Addr.mk w.heap.size 0 none)))]) (fun r3 w2 => K (!r3) w2) w1
structure z3f_sh (l_0 : Sl) (ok_1 : Value) (K : Pw.T0) (w : World) : Prop where
  out : z3f_sd l_0 ok_1 K w
noncomputable def z3f_S : Pw.Spec := fun vs w Kv =>
  match vs with
  | [.slice l_0p l_0l l_0c, ok_1] => z3f_sh ⟨l_0p, l_0l, l_0c⟩ ok_1 (Pw.kB Kv) w
  | _ => False
noncomputable def z3f_E : Pw.Env := [(73, z05_S)]
noncomputable def z3f_C : Code := (Tryz.f51.body).getD .skip
noncomputable def z3f_A (_Kv : VW) : Pw.A :=
  (A.seq (A.reg (Pw.rn 2 RA.done))
   (A.seq (A.reg (Pw.rn 5 RA.done))
   A.leaf))
noncomputable def z3f_O (Kv : VW) : List Ob := (obs Tryz.prog z3f_E 9 (z3f_A Kv) z3f_C (fun _ => retQ Tryz.prog Tryz.f51.results Kv))
theorem z3f_e (Kv : VW) (l_0p : Option Addr) (l_0l l_0c : Nat) (ok_1 : Value) (w : World) : z3f_sd ⟨l_0p, l_0l, l_0c⟩ ok_1 (Pw.kB Kv) w = W Tryz.prog z3f_E 9 (z3f_A Kv) z3f_C [] (retQ Tryz.prog Tryz.f51.results Kv) [] (startS [(Value.slice l_0p l_0l l_0c), ok_1]) w := by kernel_rfl
theorem z3f_n (Kv : VW) : obAt (z3f_O Kv) 0 = none := by kernel_rfl
theorem z3f_h (Kv : VW) : ∀ k, holdsAt Tryz.prog z3f_E 9 (z3f_O Kv) k := fun _ => holdsAt_ge (z3f_n Kv) (Nat.zero_le _)
theorem z3f_ok : Sound Tryz.prog 51 z3f_S := ⟨Tryz.call51, fun vs w Kv h => by
  unfold z3f_S at h
  split at h
  . have h := h.out
    rw [z3f_e] at h
    exact calls_sound (Γ := z3f_E) progMixed ⟨.inl z05_ok, trivial⟩ Tryz.func51 (code := z3f_C) (by kernel_rfl) (z3f_A Kv) Kv (holds_all (z3f_h Kv)) (Nat.le_of_ble_eq_true (by kernel_rfl)) h
  . exact h.elim⟩
/-! z2g_3 -/
def z1k_sd (d_0_0 : Int) (d_0_1 : Sl) (d_0_2 : Int) (t_1 : Addr) (K : Pw.T0) (w : World) : Prop :=
  let w1 := w.alloc (Obj.cells #[(Value.int .i64 d_0_0), (Value.slice d_0_1.p d_0_1.l d_0_1.c), (Value.int .i64 d_0_2)] 67)
  ∃ x2 : Sl, w1.cell? (Addr.mk w.heap.size 1 none) = some (Value.slice x2.p x2.l x2.c) /\ cnd (decide ((x2.l : Int) > (0 : Int)))
    (∃ x3 : Sl, w1.cell? (Addr.mk w.heap.size 1 none) = some (Value.slice x3.p x3.l x3.c) /\ z0x_sh x3 (fun r5 w4 => cnd r5
    (∃ x6 : Sl, w4.cell? (Addr.mk w.heap.size 1 none) = some (Value.slice x6.p x6.l x6.c) /\ ∃ x7 : Value, w4.cell? t_1 = some x7 /\ z3f_sh x6 x7 (fun r9 w8 => cnd r9
    (∃ x10 : Int, w8.cell? (Addr.mk w.heap.size 2 none) = some (Value.int .i64 x10) /\ z25_sh x10 (1000000000 : Int) (fun r12 w11 => K r12 w11) w8)
    (K false w8)) w4)
    (K false w4)) w1)
    (K false w1)
structure z1k_sh (d_0_0 : Int) (d_0_1 : Sl) (d_0_2 : Int) (t_1 : Addr) (K : Pw.T0) (w : World) : Prop where
  out : z1k_sd d_0_0 d_0_1 d_0_2 t_1 K w
noncomputable def z1k_S : Pw.Spec := fun vs w Kv =>
  match vs with
  | [.agg ⟨[.int .i64 d_0_0, .slice d_0_1p d_0_1l d_0_1c, .int .i64 d_0_2]⟩, .pointer (some t_1)] => z1k_sh d_0_0 ⟨d_0_1p, d_0_1l, d_0_1c⟩ d_0_2 t_1 (Pw.kB Kv) w
  | _ => False
noncomputable def z1k_E : Pw.Env := [(29, z25_S), (50, z0x_S), (51, z3f_S)]
noncomputable def z1k_C : Code := (Tryz.f49.body).getD .skip
noncomputable def z1k_A (_Kv : VW) : Pw.A :=
  (A.seq (A.reg (Pw.rn 2 RA.done))
   (A.seq (A.reg (Pw.rn 5 (RA.spl 8 (Pw.rn 5 (RA.spl 13 (Pw.rn 6 (RA.spl 19 (Pw.rn 5 RA.done) (Pw.sk 3 (Pw.rn 2 RA.done)))) (Pw.sk 4 (Pw.rn 2 (Pw.sk 3 (Pw.rn 2 RA.done)))))) (Pw.sk 3 (Pw.rn 2 (Pw.sk 4 (Pw.rn 2 (Pw.sk 3 (Pw.rn 2 RA.done)))))))))
   A.leaf))
noncomputable def z1k_O (Kv : VW) : List Ob := (obs Tryz.prog z1k_E 24 (z1k_A Kv) z1k_C (fun _ => retQ Tryz.prog Tryz.f49.results Kv))
theorem z1k_e (Kv : VW) (d_0_0 : Int) (d_0_1p : Option Addr) (d_0_1l d_0_1c : Nat) (d_0_2 : Int) (t_1 : Addr) (w : World) : z1k_sd d_0_0 ⟨d_0_1p, d_0_1l, d_0_1c⟩ d_0_2 t_1 (Pw.kB Kv) w = W Tryz.prog z1k_E 24 (z1k_A Kv) z1k_C [] (retQ Tryz.prog Tryz.f49.results Kv) [] (startS [(Value.agg #[(Value.int .i64 d_0_0), (Value.slice d_0_1p d_0_1l d_0_1c), (Value.int .i64 d_0_2)]), (Value.pointer (some t_1))]) w := by kernel_rfl
theorem z1k_n (Kv : VW) : obAt (z1k_O Kv) 0 = none := by kernel_rfl
theorem z1k_h (Kv : VW) : ∀ k, holdsAt Tryz.prog z1k_E 24 (z1k_O Kv) k := fun _ => holdsAt_ge (z1k_n Kv) (Nat.zero_le _)
theorem z1k_ok : Sound Tryz.prog 49 z1k_S := ⟨Tryz.call49, fun vs w Kv h => by
  unfold z1k_S at h
  split at h
  . have h := h.out
    rw [z1k_e] at h
    exact calls_sound (Γ := z1k_E) progMixed ⟨.inl z25_ok, .inl z0x_ok, .inl z3f_ok, trivial⟩ Tryz.func49 (code := z1k_C) (by kernel_rfl) (z1k_A Kv) Kv (holds_all (z1k_h Kv)) (Nat.le_of_ble_eq_true (by kernel_rfl)) h
  . exact h.elim⟩
/-! z2n_apiChoice -/
def z06_sd (x_0_0 x_0_1 : Int) (x_0_2 x_0_3 : Int) (t_1 : Addr) (K : Pw.T0) (w : World) : Prop :=
  let w1 := w.alloc (Obj.cells #[(Value.int .i64 x_0_0), (Value.int .i64 x_0_1), (Value.int .i64 x_0_2), (Value.int .i64 x_0_3)] 65)
  ∃ x2 : Value, w1.cell? t_1 = some x2 /\ ∃ x3 : Int, w1.cell? (Addr.mk w.heap.size 0 none) = some (Value.int .i64 x3) /\ ∃ x4 : Int, w1.cell? (Addr.mk w.heap.size 1 none) = some (Value.int .i64 x4) /\ ∃ x5 : Int, w1.cell? (Addr.mk w.heap.size 2 none) = some (Value.int .i64 x5) /\ ∃ x6 : Int, w1.cell? (Addr.mk w.heap.size 3 none) = some (Value.int .i64 x6) /\ CallV Tryz.prog x2 [(Value.agg #[(Value.int .i64 x3), (Value.int .i64 x4), (Value.int .i64 x5), (Value.int .i64 x6)])] w1 fun u7 w8 => ∃ x9 : Bool, u7 = (Value.bool x9) /\ K (!x9) w8
structure z06_sh (x_0_0 x_0_1 : Int) (x_0_2 x_0_3 : Int) (t_1 : Addr) (K : Pw.T0) (w : World) : Prop where
  out : z06_sd x_0_0 x_0_1 x_0_2 x_0_3 t_1 K w
noncomputable def z06_S : Pw.Spec := fun vs w Kv =>
  match vs with
  | [.agg ⟨[.int .i64 x_0_0, .int .i64 x_0_1, .int .i64 x_0_2, .int .i64 x_0_3]⟩, .pointer (some t_1)] => z06_sh x_0_0 x_0_1 x_0_2 x_0_3 t_1 (Pw.kB Kv) w
  | _ => False
noncomputable def z06_E : Pw.Env := []
noncomputable def z06_C : Code := (Tryz.f76.body).getD .skip
noncomputable def z06_A (_Kv : VW) : Pw.A :=
  (A.seq (A.reg (Pw.rn 2 RA.done))
   (A.seq (A.reg (Pw.rn 2 (RA.dyn (Value.bool false) (Pw.rn 2 RA.done))))
   A.leaf))
noncomputable def z06_O (Kv : VW) : List Ob := (obs Tryz.prog z06_E 8 (z06_A Kv) z06_C (fun _ => retQ Tryz.prog Tryz.f76.results Kv))
theorem z06_e (Kv : VW) (x_0_0 x_0_1 : Int) (x_0_2 x_0_3 : Int) (t_1 : Addr) (w : World) : z06_sd x_0_0 x_0_1 x_0_2 x_0_3 t_1 (Pw.kB Kv) w = W Tryz.prog z06_E 8 (z06_A Kv) z06_C [] (retQ Tryz.prog Tryz.f76.results Kv) [] (startS [(Value.agg #[(Value.int .i64 x_0_0), (Value.int .i64 x_0_1), (Value.int .i64 x_0_2), (Value.int .i64 x_0_3)]), (Value.pointer (some t_1))]) w := by kernel_rfl
theorem z06_n (Kv : VW) : obAt (z06_O Kv) 0 = none := by kernel_rfl
theorem z06_h (Kv : VW) : ∀ k, holdsAt Tryz.prog z06_E 8 (z06_O Kv) k := fun _ => holdsAt_ge (z06_n Kv) (Nat.zero_le _)
theorem z06_ok : Sound Tryz.prog 76 z06_S := ⟨Tryz.call76, fun vs w Kv h => by
  unfold z06_S at h
  split at h
  . have h := h.out
    rw [z06_e] at h
    exact calls_sound (Γ := z06_E) progMixed trivial Tryz.func76 (code := z06_C) (by kernel_rfl) (z06_A Kv) Kv (holds_all (z06_h Kv)) (Nat.le_of_ble_eq_true (by kernel_rfl)) h
  . exact h.elim⟩
/-! z0a_apiChoice -/
def z02_b0 (s_0 : Sl) (f_1 : Value) (t_7 t_8 : Int) (N0 : Sl -> Value -> Int -> Int -> World -> Prop) (K : Pw.T1) (w : World) : Prop :=
  cnd (decide (t_8 < t_7))
    (nz s_0.p fun a1 => (0 <= t_8 /\ t_8 < (s_0.l : Nat)) /\ ∃ x2 : Int, w.cell? (a1.add (t_8.toNat * 4)) = some (Value.int .i64 x2) /\ ∃ x3 : Int, w.cell? ((a1.add (t_8.toNat * 4)).add 1) = some (Value.int .i64 x3) /\ ∃ x4 : Int, w.cell? ((a1.add (t_8.toNat * 4)).add 2) = some (Value.int .i64 x4) /\ ∃ x5 : Int, w.cell? ((a1.add (t_8.toNat * 4)).add 3) = some (Value.int .i64 x5) /\ CallV Tryz.prog f_1 [(Value.agg #[(Value.int .i64 x2), (Value.int .i64 x3), (Value.int .i64 x4), (Value.int .i64 x5)])] w fun u6 w7 => ∃ x8 : Bool, u6 = (Value.bool x8) /\ cnd x8
    (K t_8 w7)
    (inR .i64 (t_8 + (1 : Int)) /\ N0 s_0 f_1 t_7 (t_8 + (1 : Int)) w7))
    (K (-1 : Int) w)
def z02_l0d (s_0 : Sl) (f_1 : Value) (t_7 t_8 : Int) (K : Pw.T1) (w : World) : Prop :=
  ∃ (I : Int -> World -> Prop) (μ : Int -> World -> Nat), I t_8 w /\ ∀ (t_81 : Int) (w1 : World), I t_81 w1 ->
    z02_b0 s_0 f_1 t_7 t_81 (fun s_0' f_1' t_7' t_8' w' => ((s_0' = s_0 /\ f_1' = f_1 /\ t_7' = t_7 /\ True) /\ I t_8' w') /\ μ t_8' w' < μ t_81 w1) K w1
structure z02_l0 (s_0 : Sl) (f_1 : Value) (t_7 t_8 : Int) (K : Pw.T1) (w : World) : Prop where
  out : z02_l0d s_0 f_1 t_7 t_8 K w
def z02_sd (s_0 : Sl) (f_1 : Value) (K : Pw.T1) (w : World) : Prop :=
  z02_l0 s_0 f_1 (s_0.l : Int) (0 : Int) K w
structure z02_sh (s_0 : Sl) (f_1 : Value) (K : Pw.T1) (w : World) : Prop where
  out : z02_sd s_0 f_1 K w
def z02_P0 (Kv : VW) (ρ : Rho) (vs : List Value) (w : World) : Prop :=
  match ρ, vs with
  | _, [.slice s_0p s_0l s_0c, f_1, .int .i64 t_7, .int .i64 t_8] => z02_l0 ⟨s_0p, s_0l, s_0c⟩ f_1 t_7 t_8 (Pw.kI Kv) w
  | _, _ => False
noncomputable def z02_S : Pw.Spec := fun vs w Kv =>
  match vs with
  | [.slice s_0p s_0l s_0c, f_1] => z02_sh ⟨s_0p, s_0l, s_0c⟩ f_1 (Pw.kI Kv) w
  | _ => False
noncomputable def z02_E : Pw.Env := []
noncomputable def z02_C : Code := (Tryz.f94.body).getD .skip
noncomputable def z02_A (Kv : VW) : Pw.A :=
  (A.seq (A.reg (RA.run RA.done))
   (A.seq (A.seq (A.reg (Pw.rn 3 RA.done))
   (A.blk (A.loop [0, 1, 7, 8] (z02_P0 Kv) (A.seq (A.reg (RA.run RA.done))
   (A.seq (A.cond A.leaf
   A.leaf)
   (A.seq (A.blk (A.seq (A.reg (Pw.rn 2 RA.done))
   (A.seq (A.reg (Pw.rn 5 (RA.dyn (Value.bool false) RA.done)))
   (A.cond (A.seq (A.reg (Pw.rn 2 RA.done))
   A.leaf)
   A.leaf))))
   (A.reg (Pw.rn 2 RA.done))))))))
   (A.seq (A.reg (RA.run RA.done))
   A.leaf)))
noncomputable def z02_O (Kv : VW) : List Ob := (obs Tryz.prog z02_E 19 (z02_A Kv) z02_C (fun _ => retQ Tryz.prog Tryz.f94.results Kv))
theorem z02_e (Kv : VW) (s_0p : Option Addr) (s_0l s_0c : Nat) (f_1 : Value) (w : World) : z02_sd ⟨s_0p, s_0l, s_0c⟩ f_1 (Pw.kI Kv) w = W Tryz.prog z02_E 19 (z02_A Kv) z02_C [] (retQ Tryz.prog Tryz.f94.results Kv) [] (startS [(Value.slice s_0p s_0l s_0c), f_1]) w := by kernel_rfl
theorem z02_e0 (Kv : VW) (N0 : List Value -> World -> Prop) (ρ : Rho) (s_0p : Option Addr) (s_0l s_0c : Nat) (f_1 : Value) (t_7 t_8 : Int) (w : World) : z02_b0 ⟨s_0p, s_0l, s_0c⟩ f_1 t_7 t_8 (fun s_0' f_1' t_7' t_8' w' => N0 [(Value.slice s_0'.p s_0'.l s_0'.c), f_1', (Value.int .i64 t_7'), (Value.int .i64 t_8')] w') (Pw.kI Kv) w = goalAt Tryz.prog z02_E 19 (z02_O Kv) 0 (N0 :: ρ) [(Value.slice s_0p s_0l s_0c), f_1, (Value.int .i64 t_7), (Value.int .i64 t_8)] w := by kernel_rfl
theorem z02_q0 (Kv : VW) (ρ : Rho) (vs : List Value) (w : World) : labAt (z02_O Kv) 0 ρ vs w = z02_P0 Kv ρ vs w := by kernel_rfl
def z02_I0 (s_00 : Sl) (f_10 : Value) (t_70 : Int) (I : Int -> World -> Prop) (vs : List Value) (w : World) : Prop :=
  match vs with
  | [.slice s_0p s_0l s_0c, f_1, .int .i64 t_7, .int .i64 t_8] => (⟨s_0p, s_0l, s_0c⟩ = s_00 /\ f_1 = f_10 /\ t_7 = t_70 /\ True) /\ I t_8 w
  | _ => False
def z02_M0 (μ : Int -> World -> Nat) (vs : List Value) (w : World) : Nat :=
  match vs with
  | [.slice _s_0p _s_0l _s_0c, _f_1, .int .i64 _t_7, .int .i64 t_8] => μ t_8 w
  | _ => 0
theorem z02_h0 (Kv : VW) : holdsAt Tryz.prog z02_E 19 (z02_O Kv) 0 := holdsAt_loop (by kernel_rfl) (fun ρ vs w h => by
  rw [z02_q0] at h
  unfold z02_P0 at h
  split at h
  . rename_i ρt s_0p s_0l s_0c f_1 t_7 t_8
    obtain ⟨I, μ, h0, hr⟩ := h.out
    refine ⟨z02_I0 ⟨s_0p, s_0l, s_0c⟩ f_1 t_7 I, z02_M0 μ, ⟨⟨rfl, rfl, rfl, trivial⟩, h0⟩, fun vs w hI => ?_⟩
    unfold z02_I0 at hI
    split at hI
    . obtain ⟨⟨h0, h1, h2, _⟩, hI⟩ := hI
      cases h0; cases h1; cases h2
      rw [← z02_e0]
      exact hr _ _ hI
    . exact hI.elim
  . exact h.elim)
theorem z02_n (Kv : VW) : obAt (z02_O Kv) 1 = none := by kernel_rfl
theorem z02_h (Kv : VW) : ∀ k, holdsAt Tryz.prog z02_E 19 (z02_O Kv) k := fun k => match k with
  | 0 => z02_h0 Kv
  | _k + 1 => holdsAt_ge (z02_n Kv) (Nat.le_add_left _ _)
theorem z02_ok : Sound Tryz.prog 94 z02_S := ⟨Tryz.call94, fun vs w Kv h => by
  unfold z02_S at h
  split at h
  . have h := h.out
    rw [z02_e] at h
    exact calls_sound (Γ := z02_E) progMixed trivial Tryz.func94 (code := z02_C) (by kernel_rfl) (z02_A Kv) Kv (holds_all (z02_h Kv)) (Nat.le_of_ble_eq_true (by kernel_rfl)) h
  . exact h.elim⟩
/-! z05_apiChoice -/
def z00_sd (s_0 : Sl) (f_1 : Value) (K : Pw.T0) (w : World) : Prop :=
  z02_sh s_0 f_1 (fun r2 w1 => K (decide (r2 >= (0 : Int))) w1) w
structure z00_sh (s_0 : Sl) (f_1 : Value) (K : Pw.T0) (w : World) : Prop where
  out : z00_sd s_0 f_1 K w
noncomputable def z00_S : Pw.Spec := fun vs w Kv =>
  match vs with
  | [.slice s_0p s_0l s_0c, f_1] => z00_sh ⟨s_0p, s_0l, s_0c⟩ f_1 (Pw.kB Kv) w
  | _ => False
noncomputable def z00_E : Pw.Env := [(94, z02_S)]
noncomputable def z00_C : Code := (Tryz.f75.body).getD .skip
noncomputable def z00_A (_Kv : VW) : Pw.A :=
  (A.seq (A.reg (RA.run RA.done))
   (A.seq (A.reg (Pw.rn 5 RA.done))
   A.leaf))
noncomputable def z00_O (Kv : VW) : List Ob := (obs Tryz.prog z00_E 9 (z00_A Kv) z00_C (fun _ => retQ Tryz.prog Tryz.f75.results Kv))
theorem z00_e (Kv : VW) (s_0p : Option Addr) (s_0l s_0c : Nat) (f_1 : Value) (w : World) : z00_sd ⟨s_0p, s_0l, s_0c⟩ f_1 (Pw.kB Kv) w = W Tryz.prog z00_E 9 (z00_A Kv) z00_C [] (retQ Tryz.prog Tryz.f75.results Kv) [] (startS [(Value.slice s_0p s_0l s_0c), f_1]) w := by kernel_rfl
theorem z00_n (Kv : VW) : obAt (z00_O Kv) 0 = none := by kernel_rfl
theorem z00_h (Kv : VW) : ∀ k, holdsAt Tryz.prog z00_E 9 (z00_O Kv) k := fun _ => holdsAt_ge (z00_n Kv) (Nat.zero_le _)
theorem z00_ok : Sound Tryz.prog 75 z00_S := ⟨Tryz.call75, fun vs w Kv h => by
  unfold z00_S at h
  split at h
  . have h := h.out
    rw [z00_e] at h
    exact calls_sound (Γ := z00_E) progMixed ⟨.inl z02_ok, trivial⟩ Tryz.func75 (code := z00_C) (by kernel_rfl) (z00_A Kv) Kv (holds_all (z00_h Kv)) (Nat.le_of_ble_eq_true (by kernel_rfl)) h
  . exact h.elim⟩
/-! z3f_apiChoice -/
def z09_sd (l_0 : Sl) (ok_1 : Value) (K : Pw.T0) (w : World) : Prop :=
  let w1 := w.alloc (Obj.cells (Value.cells ok_1) 85)
  z00_sh l_0 (Value.func (.func 76) #[] #[(Value.pointer (some (Addr.mk w.heap.size 0 none)))]) (fun r3 w2 => K (!r3) w2) w1
structure z09_sh (l_0 : Sl) (ok_1 : Value) (K : Pw.T0) (w : World) : Prop where
  out : z09_sd l_0 ok_1 K w
noncomputable def z09_S : Pw.Spec := fun vs w Kv =>
  match vs with
  | [.slice l_0p l_0l l_0c, ok_1] => z09_sh ⟨l_0p, l_0l, l_0c⟩ ok_1 (Pw.kB Kv) w
  | _ => False
noncomputable def z09_E : Pw.Env := [(75, z00_S)]
noncomputable def z09_C : Code := (Tryz.f52.body).getD .skip
noncomputable def z09_A (_Kv : VW) : Pw.A :=
  (A.seq (A.reg (Pw.rn 2 RA.done))
   (A.seq (A.reg (Pw.rn 5 RA.done))
   A.leaf))
noncomputable def z09_O (Kv : VW) : List Ob := (obs Tryz.prog z09_E 9 (z09_A Kv) z09_C (fun _ => retQ Tryz.prog Tryz.f52.results Kv))
theorem z09_e (Kv : VW) (l_0p : Option Addr) (l_0l l_0c : Nat) (ok_1 : Value) (w : World) : z09_sd ⟨l_0p, l_0l, l_0c⟩ ok_1 (Pw.kB Kv) w = W Tryz.prog z09_E 9 (z09_A Kv) z09_C [] (retQ Tryz.prog Tryz.f52.results Kv) [] (startS [(Value.slice l_0p l_0l l_0c), ok_1]) w := by kernel_rfl
theorem z09_n (Kv : VW) : obAt (z09_O Kv) 0 = none := by kernel_rfl
theorem z09_h (Kv : VW) : ∀ k, holdsAt Tryz.prog z09_E 9 (z09_O Kv) k := fun _ => holdsAt_ge (z09_n Kv) (Nat.zero_le _)
theorem z09_ok : Sound Tryz.prog 52 z09_S := ⟨Tryz.call52, fun vs w Kv h => by
  unfold z09_S at h
  split at h
  . have h := h.out
    rw [z09_e] at h
    exact calls_sound (Γ := z09_E) progMixed ⟨.inl z00_ok, trivial⟩ Tryz.func52 (code := z09_C) (by kernel_rfl) (z09_A Kv) Kv (holds_all (z09_h Kv)) (Nat.le_of_ble_eq_true (by kernel_rfl)) h
  . exact h.elim⟩
/-! z2n_apiDeal -/
def z0c_sd (x_0_0 : Int) (x_0_1 : Sl) (x_0_2 : Int) (t_1 : Addr) (K : Pw.T0) (w : World) : Prop :=
  let w1 := w.alloc (Obj.cells #[(Value.int .i64 x_0_0), (Value.slice x_0_1.p x_0_1.l x_0_1.c), (Value.int .i64 x_0_2)] 67)
  ∃ x2 : Value, w1.cell? t_1 = some x2 /\ ∃ x3 : Int, w1.cell? (Addr.mk w.heap.size 0 none) = some (Value.int .i64 x3) /\ ∃ x4 : Sl, w1.cell? (Addr.mk w.heap.size 1 none) = some (Value.slice x4.p x4.l x4.c) /\ ∃ x5 : Int, w1.cell? (Addr.mk w.heap.size 2 none) = some (Value.int .i64 x5) /\ CallV Tryz.prog x2 [(Value.agg #[(Value.int .i64 x3), (Value.slice x4.p x4.l x4.c), (Value.int .i64 x5)])] w1 fun u6 w7 => ∃ x8 : Bool, u6 = (Value.bool x8) /\ K (!x8) w7
structure z0c_sh (x_0_0 : Int) (x_0_1 : Sl) (x_0_2 : Int) (t_1 : Addr) (K : Pw.T0) (w : World) : Prop where
  out : z0c_sd x_0_0 x_0_1 x_0_2 t_1 K w
noncomputable def z0c_S : Pw.Spec := fun vs w Kv =>
  match vs with
  | [.agg ⟨[.int .i64 x_0_0, .slice x_0_1p x_0_1l x_0_1c, .int .i64 x_0_2]⟩, .pointer (some t_1)] => z0c_sh x_0_0 ⟨x_0_1p, x_0_1l, x_0_1c⟩ x_0_2 t_1 (Pw.kB Kv) w
  | _ => False
noncomputable def z0c_E : Pw.Env := []
noncomputable def z0c_C : Code := (Tryz.f78.body).getD .skip
noncomputable def z0c_A (_Kv : VW) : Pw.A :=
  (A.seq (A.reg (Pw.rn 2 RA.done))
   (A.seq (A.reg (Pw.rn 2 (RA.dyn (Value.bool false) (Pw.rn 2 RA.done))))
   A.leaf))
noncomputable def z0c_O (Kv : VW) : List Ob := (obs Tryz.prog z0c_E 8 (z0c_A Kv) z0c_C (fun _ => retQ Tryz.prog Tryz.f78.results Kv))
theorem z0c_e (Kv : VW) (x_0_0 : Int) (x_0_1p : Option Addr) (x_0_1l x_0_1c : Nat) (x_0_2 : Int) (t_1 : Addr) (w : World) : z0c_sd x_0_0 ⟨x_0_1p, x_0_1l, x_0_1c⟩ x_0_2 t_1 (Pw.kB Kv) w = W Tryz.prog z0c_E 8 (z0c_A Kv) z0c_C [] (retQ Tryz.prog Tryz.f78.results Kv) [] (startS [(Value.agg #[(Value.int .i64 x_0_0), (Value.slice x_0_1p x_0_1l x_0_1c), (Value.int .i64 x_0_2)]), (Value.pointer (some t_1))]) w := by kernel_rfl
theorem z0c_n (Kv : VW) : obAt (z0c_O Kv) 0 = none := by kernel_rfl
theorem z0c_h (Kv : VW) : ∀ k, holdsAt Tryz.prog z0c_E 8 (z0c_O Kv) k := fun _ => holdsAt_ge (z0c_n Kv) (Nat.zero_le _)
theorem z0c_ok : Sound Tryz.prog 78 z0c_S := ⟨Tryz.call78, fun vs w Kv h => by
  unfold z0c_S at h
  split at h
  . have h := h.out
    rw [z0c_e] at h
    exact calls_sound (Γ := z0c_E) progMixed trivial Tryz.func78 (code := z0c_C) (by kernel_rfl) (z0c_A Kv) Kv (holds_all (z0c_h Kv)) (Nat.le_of_ble_eq_true (by kernel_rfl)) h
  . exact h.elim⟩
/-! z0a_apiDeal -/
def z03_b0 (s_0 : Sl) (f_1 : Value) (t_7 t_8 : Int) (N0 : Sl -> Value -> Int -> Int -> World -> Prop) (K : Pw.T1) (w : World) : Prop :=
  cnd (decide (t_8 < t_7))
    (nz s_0.p fun a1 => (0 <= t_8 /\ t_8 < (s_0.l : Nat)) /\ ∃ x2 : Int, w.cell? (a1.add (t_8.toNat * 3)) = some (Value.int .i64 x2) /\ ∃ x3 : Sl, w.cell? ((a1.add (t_8.toNat * 3)).add 1) = some (Value.slice x3.p x3.l x3.c) /\ ∃ x4 : Int, w.cell? ((a1.add (t_8.toNat * 3)).add 2) = some (Value.int .i64 x4) /\ CallV Tryz.prog f_1 [(Value.agg #[(Value.int .i64 x2), (Value.slice x3.p x3.l x3.c), (Value.int .i64 x4)])] w fun u5 w6 => ∃ x7 : Bool, u5 = (Value.bool x7) /\ cnd x7
    (K t_8 w6)
    (inR .i64 (t_8 + (1 : Int)) /\ N0 s_0 f_1 t_7 (t_8 + (1 : Int)) w6))
    (K (-1 : Int) w)
def z03_l0d (s_0 : Sl) (f_1 : Value) (t_7 t_8 : Int) (K : Pw.T1) (w : World) : Prop :=
  ∃ (I : Int -> World -> Prop) (μ : Int -> World -> Nat), I t_8 w /\ ∀ (t_81 : Int) (w1 : World), I t_81 w1 ->
    z03_b0 s_0 f_1 t_7 t_81 (fun s_0' f_1' t_7' t_8' w' => ((s_0' = s_0 /\ f_1' = f_1 /\ t_7' = t_7 /\ True) /\ I t_8' w') /\ μ t_8' w' < μ t_81 w1) K w1
structure z03_l0 (s_0 : Sl) (f_1 : Value) (t_7 t_8 : Int) (K : Pw.T1) (w : World) : Prop where
  out : z03_l0d s_0 f_1 t_7 t_8 K w
def z03_sd (s_0 : Sl) (f_1 : Value) (K : Pw.T1) (w : World) : Prop :=
  z03_l0 s_0 f_1 (s_0.l : Int) (0 : Int) K w
structure z03_sh (s_0 : Sl) (f_1 : Value) (K : Pw.T1) (w : World) : Prop where
  out : z03_sd s_0 f_1 K w
def z03_P0 (Kv : VW) (ρ : Rho) (vs : List Value) (w : World) : Prop :=
  match ρ, vs with
  | _, [.slice s_0p s_0l s_0c, f_1, .int .i64 t_7, .int .i64 t_8] => z03_l0 ⟨s_0p, s_0l, s_0c⟩ f_1 t_7 t_8 (Pw.kI Kv) w
  | _, _ => False
noncomputable def z03_S : Pw.Spec := fun vs w Kv =>
  match vs with
  | [.slice s_0p s_0l s_0c, f_1] => z03_sh ⟨s_0p, s_0l, s_0c⟩ f_1 (Pw.kI Kv) w
  | _ => False
noncomputable def z03_E : Pw.Env := []
noncomputable def z03_C : Code := (Tryz.f95.body).getD .skip
noncomputable def z03_A (Kv : VW) : Pw.A :=
  (A.seq (A.reg (RA.run RA.done))
   (A.seq (A.seq (A.reg (Pw.rn 3 RA.done))
   (A.blk (A.loop [0, 1, 7, 8] (z03_P0 Kv) (A.seq (A.reg (RA.run RA.done))
   (A.seq (A.cond A.leaf
   A.leaf)
   (A.seq (A.blk (A.seq (A.reg (Pw.rn 2 RA.done))
   (A.seq (A.reg (Pw.rn 5 (RA.dyn (Value.bool false) RA.done)))
   (A.cond (A.seq (A.reg (Pw.rn 2 RA.done))
   A.leaf)
   A.leaf))))
   (A.reg (Pw.rn 2 RA.done))))))))
   (A.seq (A.reg (RA.run RA.done))
   A.leaf)))
noncomputable def z03_O (Kv : VW) : List Ob := (obs Tryz.prog z03_E 19 (z03_A Kv) z03_C (fun _ => retQ Tryz.prog Tryz.f95.results Kv))
theorem z03_e (Kv : VW) (s_0p : Option Addr) (s_0l s_0c : Nat) (f_1 : Value) (w : World) : z03_sd ⟨s_0p, s_0l, s_0c⟩ f_1 (Pw.kI Kv) w = W Tryz.prog z03_E 19 (z03_A Kv) z03_C [] (retQ Tryz.prog Tryz.f95.results Kv) [] (startS [(Value.slice s_0p s_0l s_0c), f_1]) w := by kernel_rfl
theorem z03_e0 (Kv : VW) (N0 : List Value -> World -> Prop) (ρ : Rho) (s_0p : Option Addr) (s_0l s_0c : Nat) (f_1 : Value) (t_7 t_8 : Int) (w : World) : z03_b0 ⟨s_0p, s_0l, s_0c⟩ f_1 t_7 t_8 (fun s_0' f_1' t_7' t_8' w' => N0 [(Value.slice s_0'.p s_0'.l s_0'.c), f_1', (Value.int .i64 t_7'), (Value.int .i64 t_8')] w') (Pw.kI Kv) w = goalAt Tryz.prog z03_E 19 (z03_O Kv) 0 (N0 :: ρ) [(Value.slice s_0p s_0l s_0c), f_1, (Value.int .i64 t_7), (Value.int .i64 t_8)] w := by kernel_rfl
theorem z03_q0 (Kv : VW) (ρ : Rho) (vs : List Value) (w : World) : labAt (z03_O Kv) 0 ρ vs w = z03_P0 Kv ρ vs w := by kernel_rfl
def z03_I0 (s_00 : Sl) (f_10 : Value) (t_70 : Int) (I : Int -> World -> Prop) (vs : List Value) (w : World) : Prop :=
  match vs with
  | [.slice s_0p s_0l s_0c, f_1, .int .i64 t_7, .int .i64 t_8] => (⟨s_0p, s_0l, s_0c⟩ = s_00 /\ f_1 = f_10 /\ t_7 = t_70 /\ True) /\ I t_8 w
  | _ => False
def z03_M0 (μ : Int -> World -> Nat) (vs : List Value) (w : World) : Nat :=
  match vs with
  | [.slice _s_0p _s_0l _s_0c, _f_1, .int .i64 _t_7, .int .i64 t_8] => μ t_8 w
  | _ => 0
theorem z03_h0 (Kv : VW) : holdsAt Tryz.prog z03_E 19 (z03_O Kv) 0 := holdsAt_loop (by kernel_rfl) (fun ρ vs w h => by
  rw [z03_q0] at h
  unfold z03_P0 at h
  split at h
  . rename_i ρt s_0p s_0l s_0c f_1 t_7 t_8
    obtain ⟨I, μ, h0, hr⟩ := h.out
    refine ⟨z03_I0 ⟨s_0p, s_0l, s_0c⟩ f_1 t_7 I, z03_M0 μ, ⟨⟨rfl, rfl, rfl, trivial⟩, h0⟩, fun vs w hI => ?_⟩
    unfold z03_I0 at hI
    split at hI
    . obtain ⟨⟨h0, h1, h2, _⟩, hI⟩ := hI
      cases h0; cases h1; cases h2
      rw [← z03_e0]
      exact hr _ _ hI
    . exact hI.elim
  . exact h.elim)
theorem z03_n (Kv : VW) : obAt (z03_O Kv) 1 = none := by kernel_rfl
theorem z03_h (Kv : VW) : ∀ k, holdsAt Tryz.prog z03_E 19 (z03_O Kv) k := fun k => match k with
  | 0 => z03_h0 Kv
  | _k + 1 => holdsAt_ge (z03_n Kv) (Nat.le_add_left _ _)
theorem z03_ok : Sound Tryz.prog 95 z03_S := ⟨Tryz.call95, fun vs w Kv h => by
  unfold z03_S at h
  split at h
  . have h := h.out
    rw [z03_e] at h
    exact calls_sound (Γ := z03_E) progMixed trivial Tryz.func95 (code := z03_C) (by kernel_rfl) (z03_A Kv) Kv (holds_all (z03_h Kv)) (Nat.le_of_ble_eq_true (by kernel_rfl)) h
  . exact h.elim⟩
/-! z05_apiDeal -/
def z01_sd (s_0 : Sl) (f_1 : Value) (K : Pw.T0) (w : World) : Prop :=
  z03_sh s_0 f_1 (fun r2 w1 => K (decide (r2 >= (0 : Int))) w1) w
structure z01_sh (s_0 : Sl) (f_1 : Value) (K : Pw.T0) (w : World) : Prop where
  out : z01_sd s_0 f_1 K w
noncomputable def z01_S : Pw.Spec := fun vs w Kv =>
  match vs with
  | [.slice s_0p s_0l s_0c, f_1] => z01_sh ⟨s_0p, s_0l, s_0c⟩ f_1 (Pw.kB Kv) w
  | _ => False
noncomputable def z01_E : Pw.Env := [(95, z03_S)]
noncomputable def z01_C : Code := (Tryz.f77.body).getD .skip
noncomputable def z01_A (_Kv : VW) : Pw.A :=
  (A.seq (A.reg (RA.run RA.done))
   (A.seq (A.reg (Pw.rn 5 RA.done))
   A.leaf))
noncomputable def z01_O (Kv : VW) : List Ob := (obs Tryz.prog z01_E 9 (z01_A Kv) z01_C (fun _ => retQ Tryz.prog Tryz.f77.results Kv))
theorem z01_e (Kv : VW) (s_0p : Option Addr) (s_0l s_0c : Nat) (f_1 : Value) (w : World) : z01_sd ⟨s_0p, s_0l, s_0c⟩ f_1 (Pw.kB Kv) w = W Tryz.prog z01_E 9 (z01_A Kv) z01_C [] (retQ Tryz.prog Tryz.f77.results Kv) [] (startS [(Value.slice s_0p s_0l s_0c), f_1]) w := by kernel_rfl
theorem z01_n (Kv : VW) : obAt (z01_O Kv) 0 = none := by kernel_rfl
theorem z01_h (Kv : VW) : ∀ k, holdsAt Tryz.prog z01_E 9 (z01_O Kv) k := fun _ => holdsAt_ge (z01_n Kv) (Nat.zero_le _)
theorem z01_ok : Sound Tryz.prog 77 z01_S := ⟨Tryz.call77, fun vs w Kv h => by
  unfold z01_S at h
  split at h
  . have h := h.out
    rw [z01_e] at h
    exact calls_sound (Γ := z01_E) progMixed ⟨.inl z03_ok, trivial⟩ Tryz.func77 (code := z01_C) (by kernel_rfl) (z01_A Kv) Kv (holds_all (z01_h Kv)) (Nat.le_of_ble_eq_true (by kernel_rfl)) h
  . exact h.elim⟩
/-! z3f_apiDeal -/
def z0j_sd (l_0 : Sl) (ok_1 : Value) (K : Pw.T0) (w : World) : Prop :=
  let w1 := w.alloc (Obj.cells (Value.cells ok_1) 87)
  z01_sh l_0 (Value.func (.func 78) #[] #[(Value.pointer (some (Addr.mk w.heap.size 0 none)))]) (fun r3 w2 => K (!r3) w2) w1
structure z0j_sh (l_0 : Sl) (ok_1 : Value) (K : Pw.T0) (w : World) : Prop where
  out : z0j_sd l_0 ok_1 K w
noncomputable def z0j_S : Pw.Spec := fun vs w Kv =>
  match vs with
  | [.slice l_0p l_0l l_0c, ok_1] => z0j_sh ⟨l_0p, l_0l, l_0c⟩ ok_1 (Pw.kB Kv) w
  | _ => False
noncomputable def z0j_E : Pw.Env := [(77, z01_S)]
noncomputable def z0j_C : Code := (Tryz.f53.body).getD .skip
noncomputable def z0j_A (_Kv : VW) : Pw.A :=
  (A.seq (A.reg (Pw.rn 2 RA.done))
   (A.seq (A.reg (Pw.rn 5 RA.done))
   A.leaf))
noncomputable def z0j_O (Kv : VW) : List Ob := (obs Tryz.prog z0j_E 9 (z0j_A Kv) z0j_C (fun _ => retQ Tryz.prog Tryz.f53.results Kv))
theorem z0j_e (Kv : VW) (l_0p : Option Addr) (l_0l l_0c : Nat) (ok_1 : Value) (w : World) : z0j_sd ⟨l_0p, l_0l, l_0c⟩ ok_1 (Pw.kB Kv) w = W Tryz.prog z0j_E 9 (z0j_A Kv) z0j_C [] (retQ Tryz.prog Tryz.f53.results Kv) [] (startS [(Value.slice l_0p l_0l l_0c), ok_1]) w := by kernel_rfl
theorem z0j_n (Kv : VW) : obAt (z0j_O Kv) 0 = none := by kernel_rfl
theorem z0j_h (Kv : VW) : ∀ k, holdsAt Tryz.prog z0j_E 9 (z0j_O Kv) k := fun _ => holdsAt_ge (z0j_n Kv) (Nat.zero_le _)
theorem z0j_ok : Sound Tryz.prog 53 z0j_S := ⟨Tryz.call53, fun vs w Kv h => by
  unfold z0j_S at h
  split at h
  . have h := h.out
    rw [z0j_e] at h
    exact calls_sound (Γ := z0j_E) progMixed ⟨.inl z01_ok, trivial⟩ Tryz.func53 (code := z0j_C) (by kernel_rfl) (z0j_A Kv) Kv (holds_all (z0j_h Kv)) (Nat.le_of_ble_eq_true (by kernel_rfl)) h
  . exact h.elim⟩
/-! Cb_right -/
def z2g_sd (p_0_0 p_0_1 p_0_2 : Sl) (p_0_3 p_0_4 : Int) (K : Pw.T0) (w : World) : Prop :=
  let w1 := w.alloc (Obj.cells #[(Value.slice p_0_0.p p_0_0.l p_0_0.c), (Value.slice p_0_1.p p_0_1.l p_0_1.c), (Value.slice p_0_2.p p_0_2.l p_0_2.c), (Value.int .i64 p_0_3), (Value.int .i64 p_0_4)] 27)
  let w2 := w1.alloc (Obj.cells #[Value.nilFunc] 84)
  wrOk w2 (Addr.mk w1.heap.size 0 none) /\ 
  (let w3 := w2.setCell (Addr.mk w1.heap.size 0 none) (Value.func (.func 46) #[] #[(Value.pointer (some (Addr.mk w.heap.size 0 none)))])
  ∃ x4 : Sl, w3.cell? (Addr.mk w.heap.size 0 none) = some (Value.slice x4.p x4.l x4.c) /\ cnd (decide ((x4.l : Int) > (0 : Int)))
    (∃ x5 : Sl, w3.cell? (Addr.mk w.heap.size 0 none) = some (Value.slice x5.p x5.l x5.c) /\ cnd (decide ((x5.l : Int) <= (12 : Int)))
    (∃ x6 : Sl, w3.cell? (Addr.mk w.heap.size 0 none) = some (Value.slice x6.p x6.l x6.c) /\ z0x_sh x6 (fun r8 w7 => cnd r8
    (∃ x9 : Sl, w7.cell? (Addr.mk w.heap.size 1 none) = some (Value.slice x9.p x9.l x9.c) /\ cnd (decide ((x9.l : Int) <= (480 : Int)))
    (∃ x10 : Sl, w7.cell? (Addr.mk w.heap.size 2 none) = some (Value.slice x10.p x10.l x10.c) /\ cnd (decide ((x10.l : Int) <= (100 : Int)))
    (∃ x11 : Int, w7.cell? (Addr.mk w.heap.size 3 none) = some (Value.int .i64 x11) /\ z25_sh x11 (1000000000 : Int) (fun r13 w12 => cnd r13
    (∃ x14 : Int, w12.cell? (Addr.mk w.heap.size 4 none) = some (Value.int .i64 x14) /\ z25_sh x14 (1000000000 : Int) (fun r16 w15 => cnd r16
    (∃ x17 : Sl, w15.cell? (Addr.mk w.heap.size 1 none) = some (Value.slice x17.p x17.l x17.c) /\ z09_sh x17 (Value.func (.func 48) #[] #[(Value.pointer (some (Addr.mk w1.heap.size 0 none)))]) (fun r19 w18 => cnd r19
    (∃ x20 : Sl, w18.cell? (Addr.mk w.heap.size 2 none) = some (Value.slice x20.p x20.l x20.c) /\ z0j_sh x20 (Value.func (.func 49) #[] #[(Value.pointer (some (Addr.mk w1.heap.size 0 none)))]) (fun r22 w21 => K r22 w21) w18)
    (K false w18)) w15)
    (K false w15)) w12)
    (K false w12)) w7)
    (K false w7))
    (K false w7))
    (K false w7)) w3)
    (K false w3))
    (K false w3))
structure z2g_sh (p_0_0 p_0_1 p_0_2 : Sl) (p_0_3 p_0_4 : Int) (K : Pw.T0) (w : World) : Prop where
  out : z2g_sd p_0_0 p_0_1 p_0_2 p_0_3 p_0_4 K w
noncomputable def z2g_S : Pw.Spec := fun vs w Kv =>
  match vs with
  | [.agg ⟨[.slice p_0_0p p_0_0l p_0_0c, .slice p_0_1p p_0_1l p_0_1c, .slice p_0_2p p_0_2l p_0_2c, .int .i64 p_0_3, .int .i64 p_0_4]⟩] => z2g_sh ⟨p_0_0p, p_0_0l, p_0_0c⟩ ⟨p_0_1p, p_0_1l, p_0_1c⟩ ⟨p_0_2p, p_0_2l, p_0_2c⟩ p_0_3 p_0_4 (Pw.kB Kv) w
  | _ => False
noncomputable def z2g_E : Pw.Env := [(29, z25_S), (50, z0x_S), (52, z09_S), (53, z0j_S)]
noncomputable def z2g_C : Code := (Tryz.f28.body).getD .skip
noncomputable def z2g_A (_Kv : VW) : Pw.A :=
  (A.seq (A.reg (Pw.rn 2 RA.done))
   (A.seq (A.reg (Pw.rn 3 RA.done))
   (A.seq (A.reg (Pw.rn 2 RA.done))
   (A.seq (A.reg (Pw.rn 2 RA.done))
   (A.seq (A.reg (Pw.rn 5 (RA.spl 13 (Pw.rn 6 (RA.spl 19 (Pw.rn 5 (RA.spl 24 (Pw.rn 6 (RA.spl 30 (Pw.rn 6 (RA.spl 36 (Pw.rn 5 (RA.spl 41 (Pw.rn 5 (RA.spl 46 (Pw.rn 6 (RA.spl 52 (Pw.rn 6 RA.done) (Pw.sk 4 (Pw.rn 2 RA.done)))) (Pw.sk 4 (Pw.rn 2 (Pw.sk 4 (Pw.rn 2 RA.done)))))) (Pw.sk 3 (Pw.rn 2 (Pw.sk 4 (Pw.rn 2 (Pw.sk 4 (Pw.rn 2 RA.done)))))))) (Pw.sk 3 (Pw.rn 2 (Pw.sk 3 (Pw.rn 2 (Pw.sk 4 (Pw.rn 2 (Pw.sk 4 (Pw.rn 2 RA.done)))))))))) (Pw.sk 4 (Pw.rn 2 (Pw.sk 3 (Pw.rn 2 (Pw.sk 3 (Pw.rn 2 (Pw.sk 4 (Pw.rn 2 (Pw.sk 4 (Pw.rn 2 RA.done)))))))))))) (Pw.sk 4 (Pw.rn 2 (Pw.sk 4 (Pw.rn 2 (Pw.sk 3 (Pw.rn 2 (Pw.sk 3 (Pw.rn 2 (Pw.sk 4 (Pw.rn 2 (Pw.sk 4 (Pw.rn 2 RA.done)))))))))))))) (Pw.sk 3 (Pw.rn 2 (Pw.sk 4 (Pw.rn 2 (Pw.sk 4 (Pw.rn 2 (Pw.sk 3 (Pw.rn 2 (Pw.sk 3 (Pw.rn 2 (Pw.sk 4 (Pw.rn 2 (Pw.sk 4 (Pw.rn 2 RA.done)))))))))))))))) (Pw.sk 4 (Pw.rn 2 (Pw.sk 3 (Pw.rn 2 (Pw.sk 4 (Pw.rn 2 (Pw.sk 4 (Pw.rn 2 (Pw.sk 3 (Pw.rn 2 (Pw.sk 3 (Pw.rn 2 (Pw.sk 4 (Pw.rn 2 (Pw.sk 4 (Pw.rn 2 RA.done)))))))))))))))))))
   A.leaf)))))
noncomputable def z2g_O (Kv : VW) : List Ob := (obs Tryz.prog z2g_E 58 (z2g_A Kv) z2g_C (fun _ => retQ Tryz.prog Tryz.f28.results Kv))
theorem z2g_e (Kv : VW) (p_0_0p : Option Addr) (p_0_0l p_0_0c : Nat) (p_0_1p : Option Addr) (p_0_1l p_0_1c : Nat) (p_0_2p : Option Addr) (p_0_2l p_0_2c : Nat) (p_0_3 p_0_4 : Int) (w : World) : z2g_sd ⟨p_0_0p, p_0_0l, p_0_0c⟩ ⟨p_0_1p, p_0_1l, p_0_1c⟩ ⟨p_0_2p, p_0_2l, p_0_2c⟩ p_0_3 p_0_4 (Pw.kB Kv) w = W Tryz.prog z2g_E 58 (z2g_A Kv) z2g_C [] (retQ Tryz.prog Tryz.f28.results Kv) [] (startS [(Value.agg #[(Value.slice p_0_0p p_0_0l p_0_0c), (Value.slice p_0_1p p_0_1l p_0_1c), (Value.slice p_0_2p p_0_2l p_0_2c), (Value.int .i64 p_0_3), (Value.int .i64 p_0_4)])]) w := by kernel_rfl
theorem z2g_n (Kv : VW) : obAt (z2g_O Kv) 0 = none := by kernel_rfl
theorem z2g_h (Kv : VW) : ∀ k, holdsAt Tryz.prog z2g_E 58 (z2g_O Kv) k := fun _ => holdsAt_ge (z2g_n Kv) (Nat.zero_le _)
theorem z2g_ok : Sound Tryz.prog 28 z2g_S := ⟨Tryz.call28, fun vs w Kv h => by
  unfold z2g_S at h
  split at h
  . have h := h.out
    rw [z2g_e] at h
    exact calls_sound (Γ := z2g_E) progMixed ⟨.inl z25_ok, .inl z0x_ok, .inl z09_ok, .inl z0j_ok, trivial⟩ Tryz.func28 (code := z2g_C) (by kernel_rfl) (z2g_A Kv) Kv (holds_all (z2g_h Kv)) (Nat.le_of_ble_eq_true (by kernel_rfl)) h
  . exact h.elim⟩
/-! bits_Mul32 -/
def z17_sd (x_0 y_1 : Int) (K : Pw.T2) (w : World) : Prop :=
  inR .u64 x_0 /\ inR .u64 y_1 /\ inR .u64 (x_0 * y_1) /\ 0 <= (32 : Int) /\ inR .u32 (Int.fdiv (x_0 * y_1) (2 ^ (min 32 (IntKind.bits .u64)))) /\ inR .u32 (x_0 * y_1) /\ K (Int.fdiv (x_0 * y_1) (2 ^ (min 32 (IntKind.bits .u64)))) (x_0 * y_1) w
structure z17_sh (x_0 y_1 : Int) (K : Pw.T2) (w : World) : Prop where
  out : z17_sd x_0 y_1 K w
noncomputable def z17_S : Pw.Spec := fun vs w Kv =>
  match vs with
  | [.int .u32 x_0, .int .u32 y_1] => z17_sh x_0 y_1 (fun r0 r1 w' => Kv (Value.tuple #[(Value.int .u32 r0), (Value.int .u32 r1)]) w') w
  | _ => False
noncomputable def z17_E : Pw.Env := []
noncomputable def z17_C : Code := (Tryz.f79.body).getD .skip
noncomputable def z17_A (_Kv : VW) : Pw.A :=
  (A.seq (A.reg (Pw.rn 2 RA.done))
   (A.seq (A.reg (Pw.rn 6 RA.done))
   (A.seq (A.reg (Pw.rn 7 RA.done))
   A.leaf)))
noncomputable def z17_O (Kv : VW) : List Ob := (obs Tryz.prog z17_E 17 (z17_A Kv) z17_C (fun _ => retQ Tryz.prog Tryz.f79.results Kv))
theorem z17_e (Kv : VW) (x_0 y_1 : Int) (w : World) : z17_sd x_0 y_1 (fun r0 r1 w' => Kv (Value.tuple #[(Value.int .u32 r0), (Value.int .u32 r1)]) w') w = W Tryz.prog z17_E 17 (z17_A Kv) z17_C [] (retQ Tryz.prog Tryz.f79.results Kv) [] (startS [(Value.int .u32 x_0), (Value.int .u32 y_1)]) w := by kernel_rfl
theorem z17_n (Kv : VW) : obAt (z17_O Kv) 0 = none := by kernel_rfl
theorem z17_h (Kv : VW) : ∀ k, holdsAt Tryz.prog z17_E 17 (z17_O Kv) k := fun _ => holdsAt_ge (z17_n Kv) (Nat.zero_le _)
theorem z17_ok : Sound Tryz.prog 79 z17_S := ⟨Tryz.call79, fun vs w Kv h => by
  unfold z17_S at h
  split at h
  . have h := h.out
    rw [z17_e] at h
    exact calls_sound (Γ := z17_E) progMixed trivial Tryz.func79 (code := z17_C) (by kernel_rfl) (z17_A Kv) Kv (holds_all (z17_h Kv)) (Nat.le_of_ble_eq_true (by kernel_rfl)) h
  . exact h.elim⟩
/-! bits_Mul -/
def z2m_sd (x_0 y_1 : Int) (K : Pw.T2) (w : World) : Prop :=
  z1m_sh x_0 y_1 (fun r2 r3 w1 => K r2 r3 w1) w
structure z2m_sh (x_0 y_1 : Int) (K : Pw.T2) (w : World) : Prop where
  out : z2m_sd x_0 y_1 K w
noncomputable def z2m_S : Pw.Spec := fun vs w Kv =>
  match vs with
  | [.int .u64 x_0, .int .u64 y_1] => z2m_sh x_0 y_1 (fun r0 r1 w' => Kv (Value.tuple #[(Value.int .u64 r0), (Value.int .u64 r1)]) w') w
  | _ => False
noncomputable def z2m_E : Pw.Env := [(80, z1m_S)]
noncomputable def z2m_C : Code := (Tryz.f54.body).getD .skip
noncomputable def z2m_A (_Kv : VW) : Pw.A :=
  (A.seq (A.reg (Pw.rn 2 RA.done))
   (A.seq (A.cond A.leaf
   A.leaf)
   (A.seq (A.reg (Pw.rn 8 RA.done))
   (A.seq (A.reg (Pw.rn 4 RA.done))
   A.leaf))))
noncomputable def z2m_O (Kv : VW) : List Ob := (obs Tryz.prog z2m_E 30 (z2m_A Kv) z2m_C (fun _ => retQ Tryz.prog Tryz.f54.results Kv))
theorem z2m_e (Kv : VW) (x_0 y_1 : Int) (w : World) : z2m_sd x_0 y_1 (fun r0 r1 w' => Kv (Value.tuple #[(Value.int .u64 r0), (Value.int .u64 r1)]) w') w = W Tryz.prog z2m_E 30 (z2m_A Kv) z2m_C [] (retQ Tryz.prog Tryz.f54.results Kv) [] (startS [(Value.int .u64 x_0), (Value.int .u64 y_1)]) w := by kernel_rfl
theorem z2m_n (Kv : VW) : obAt (z2m_O Kv) 0 = none := by kernel_rfl
theorem z2m_h (Kv : VW) : ∀ k, holdsAt Tryz.prog z2m_E 30 (z2m_O Kv) k := fun _ => holdsAt_ge (z2m_n Kv) (Nat.zero_le _)
theorem z2m_ok : Sound Tryz.prog 54 z2m_S := ⟨Tryz.call54, fun vs w Kv h => by
  unfold z2m_S at h
  split at h
  . have h := h.out
    rw [z2m_e] at h
    exact calls_sound (Γ := z2m_E) progMixed ⟨.inl z1m_ok, trivial⟩ Tryz.func54 (code := z2m_C) (by kernel_rfl) (z2m_A Kv) Kv (holds_all (z2m_h Kv)) (Nat.le_of_ble_eq_true (by kernel_rfl)) h
  . exact h.elim⟩
/-! slices_Repeat -/
def z0m_k0d (_x_0 : Sl) (_lo_6 : Int) (_K : Sl -> World -> Prop) (_w : World) : Prop :=
  False
structure z0m_k0 (x_0 : Sl) (lo_6 : Int) (K : Pw.T4) (w : World) : Prop where
  out : z0m_k0d x_0 lo_6 K w
def z0m_b1 (newslice_7 : Sl) (n_8 : Int) (N1 : Sl -> Int -> World -> Prop) (K : Pw.T4) (w : World) : Prop :=
  cnd (decide (n_8 < (newslice_7.l : Int)))
    (let w8 := w.drew
  ∃ S9 : World -> Prop, S9 w8 /\ (0 <= n_8 /\ n_8 <= (newslice_7.l : Nat)) /\ (0 <= (0 : Int) /\ (0 : Int) <= n_8 /\ n_8 <= (newslice_7.c : Nat)) /\ cpS 1 (Sl.mk (subP newslice_7.p n_8.toNat newslice_7.c 1) (newslice_7.l - n_8.toNat) (newslice_7.c - n_8.toNat)) (Sl.mk (subP newslice_7.p 0 newslice_7.c 1) (n_8.toNat - 0) (newslice_7.c - 0)) w8 fun x10 w11 => inR .i64 (n_8 + x10) /\ N1 newslice_7 (n_8 + x10) w11)
    (K newslice_7 w)
def z0m_l1d (newslice_7 : Sl) (n_8 : Int) (K : Pw.T4) (w : World) : Prop :=
  ∃ (I : Int -> World -> Prop) (μ : Int -> World -> Nat), I n_8 w /\ ∀ (n_81 : Int) (w1 : World), I n_81 w1 ->
    z0m_b1 newslice_7 n_81 (fun newslice_7' n_8' w' => ((newslice_7' = newslice_7 /\ True) /\ I n_8' w') /\ μ n_8' w' < μ n_81 w1) K w1
structure z0m_l1 (newslice_7 : Sl) (n_8 : Int) (K : Pw.T4) (w : World) : Prop where
  out : z0m_l1d newslice_7 n_8 K w
def z0m_sd (x_0 : Sl) (count_1 : Int) (K : Pw.T4) (w : World) : Prop :=
  cnd (decide (count_1 < (0 : Int)))
    (False)
    (inR .u64 (x_0.l : Int) /\ inR .u64 count_1 /\ z2m_sh (x_0.l : Int) count_1 (fun r2 r3 w1 => cnd (decide (r2 > (0 : Int)))
    (z0m_k0 x_0 r3 K w1)
    (cnd (decide (r3 > (9223372036854775807 : Int)))
    (z0m_k0 x_0 r3 K w1)
    (inR .i64 r3 /\ mkS 8 [(Value.int .i64 0)] 3 r3 r3 w1 fun s4 w5 => cpS 1 s4 x_0 w5 fun x6 w7 => z0m_l1 s4 x6 K w7))) w)
structure z0m_sh (x_0 : Sl) (count_1 : Int) (K : Pw.T4) (w : World) : Prop where
  out : z0m_sd x_0 count_1 K w
def z0m_P0 (Kv : VW) (ρ : Rho) (vs : List Value) (w : World) : Prop :=
  match ρ, vs with
  | _, [.slice x_0p x_0l x_0c, .int .u64 lo_6] => z0m_k0 ⟨x_0p, x_0l, x_0c⟩ lo_6 (Pw.kS Kv) w
  | _, _ => False
def z0m_P1 (Kv : VW) (ρ : Rho) (vs : List Value) (w : World) : Prop :=
  match ρ, vs with
  | _, [.slice newslice_7p newslice_7l newslice_7c, .int .i64 n_8] => z0m_l1 ⟨newslice_7p, newslice_7l, newslice_7c⟩ n_8 (Pw.kS Kv) w
  | _, _ => False
noncomputable def z0m_S : Pw.Spec := fun vs w Kv =>
  match vs with
  | [.slice x_0p x_0l x_0c, .int .i64 count_1] => z0m_sh ⟨x_0p, x_0l, x_0c⟩ count_1 (Pw.kS Kv) w
  | _ => False
noncomputable def z0m_E : Pw.Env := [(54, z2m_S)]
noncomputable def z0m_C : Code := (Tryz.f30.body).getD .skip
noncomputable def z0m_A (Kv : VW) : Pw.A :=
  (A.seq (A.reg (RA.run RA.done))
   (A.seq (A.seq (A.reg (Pw.rn 2 RA.done))
   (A.cond (A.reg (Pw.rn 2 RA.done))
   A.leaf))
   (A.seq (A.reg (Pw.rn 11 RA.done))
   (A.seq (A.seq (A.reg (Pw.rn 3 (RA.spl 23 (Pw.sk 2 (RA.run RA.done)) (Pw.rn 3 RA.done))))
   (A.cond (A.cut [0, 6] (z0m_P0 Kv) (A.reg (Pw.rn 2 RA.done)))
   A.leaf))
   (A.seq (A.reg (Pw.rn 4 RA.done))
   (A.seq (A.reg (Pw.rn 4 RA.done))
   (A.seq (A.blk (A.loop [7, 8] (z0m_P1 Kv) (A.seq (A.seq (A.reg (Pw.rn 4 RA.done))
   (A.cond A.leaf
   A.leaf))
   (A.blk (A.drw (DA.pur 0 (DA.pur 1 (DA.pur 2 (DA.pur 3 (DA.pur 4 (DA.pur 5 (DA.pur 6 (DA.eff 7 (DA.pur 8 (DA.pur 9 DA.done)))))))))))))))
   (A.seq (A.reg (Pw.rn 2 RA.done))
   A.leaf))))))))
noncomputable def z0m_O (Kv : VW) : List Ob := (obs Tryz.prog z0m_E 48 (z0m_A Kv) z0m_C (fun _ => retQ Tryz.prog Tryz.f30.results Kv))
theorem z0m_e (Kv : VW) (x_0p : Option Addr) (x_0l x_0c : Nat) (count_1 : Int) (w : World) : z0m_sd ⟨x_0p, x_0l, x_0c⟩ count_1 (Pw.kS Kv) w = W Tryz.prog z0m_E 48 (z0m_A Kv) z0m_C [] (retQ Tryz.prog Tryz.f30.results Kv) [] (startS [(Value.slice x_0p x_0l x_0c), (Value.int .i64 count_1)]) w := by kernel_rfl
theorem z0m_e0 (Kv : VW) (ρ : Rho) (x_0p : Option Addr) (x_0l x_0c : Nat) (lo_6 : Int) (w : World) : z0m_k0d ⟨x_0p, x_0l, x_0c⟩ lo_6 (Pw.kS Kv) w = goalAt Tryz.prog z0m_E 48 (z0m_O Kv) 0 (ρ) [(Value.slice x_0p x_0l x_0c), (Value.int .u64 lo_6)] w := by kernel_rfl
theorem z0m_q0 (Kv : VW) (ρ : Rho) (vs : List Value) (w : World) : labAt (z0m_O Kv) 0 ρ vs w = z0m_P0 Kv ρ vs w := by kernel_rfl
theorem z0m_h0 (Kv : VW) : holdsAt Tryz.prog z0m_E 48 (z0m_O Kv) 0 := holdsAt_cut (.inl (by kernel_rfl)) (fun ρ vs w h => by
  rw [z0m_q0] at h
  unfold z0m_P0 at h
  split at h
  . rw [← z0m_e0]; exact h.out
  . exact h.elim)
theorem z0m_e1 (Kv : VW) (N1 : List Value -> World -> Prop) (ρ : Rho) (newslice_7p : Option Addr) (newslice_7l newslice_7c : Nat) (n_8 : Int) (w : World) : z0m_b1 ⟨newslice_7p, newslice_7l, newslice_7c⟩ n_8 (fun newslice_7' n_8' w' => N1 [(Value.slice newslice_7'.p newslice_7'.l newslice_7'.c), (Value.int .i64 n_8')] w') (Pw.kS Kv) w = goalAt Tryz.prog z0m_E 48 (z0m_O Kv) 1 (N1 :: ρ) [(Value.slice newslice_7p newslice_7l newslice_7c), (Value.int .i64 n_8)] w := by kernel_rfl
theorem z0m_q1 (Kv : VW) (ρ : Rho) (vs : List Value) (w : World) : labAt (z0m_O Kv) 1 ρ vs w = z0m_P1 Kv ρ vs w := by kernel_rfl
def z0m_I1 (newslice_70 : Sl) (I : Int -> World -> Prop) (vs : List Value) (w : World) : Prop :=
  match vs with
  | [.slice newslice_7p newslice_7l newslice_7c, .int .i64 n_8] => (⟨newslice_7p, newslice_7l, newslice_7c⟩ = newslice_70 /\ True) /\ I n_8 w
  | _ => False
def z0m_M1 (μ : Int -> World -> Nat) (vs : List Value) (w : World) : Nat :=
  match vs with
  | [.slice _newslice_7p _newslice_7l _newslice_7c, .int .i64 n_8] => μ n_8 w
  | _ => 0
theorem z0m_h1 (Kv : VW) : holdsAt Tryz.prog z0m_E 48 (z0m_O Kv) 1 := holdsAt_loop (by kernel_rfl) (fun ρ vs w h => by
  rw [z0m_q1] at h
  unfold z0m_P1 at h
  split at h
  . rename_i ρt newslice_7p newslice_7l newslice_7c n_8
    obtain ⟨I, μ, h0, hr⟩ := h.out
    refine ⟨z0m_I1 ⟨newslice_7p, newslice_7l, newslice_7c⟩ I, z0m_M1 μ, ⟨⟨rfl, trivial⟩, h0⟩, fun vs w hI => ?_⟩
    unfold z0m_I1 at hI
    split at hI
    . obtain ⟨⟨h0, _⟩, hI⟩ := hI
      cases h0
      rw [← z0m_e1]
      exact hr _ _ hI
    . exact hI.elim
  . exact h.elim)
theorem z0m_n (Kv : VW) : obAt (z0m_O Kv) 2 = none := by kernel_rfl
theorem z0m_h (Kv : VW) : ∀ k, holdsAt Tryz.prog z0m_E 48 (z0m_O Kv) k := fun k => match k with
  | 0 => z0m_h0 Kv
  | 1 => z0m_h1 Kv
  | _k + 2 => holdsAt_ge (z0m_n Kv) (Nat.le_add_left _ _)
theorem z0m_ok : Sound Tryz.prog 30 z0m_S := ⟨Tryz.call30, fun vs w Kv h => by
  unfold z0m_S at h
  split at h
  . have h := h.out
    rw [z0m_e] at h
    exact calls_sound (Γ := z0m_E) progMixed ⟨.inl z2m_ok, trivial⟩ Tryz.func30 (code := z0m_C) (by kernel_rfl) (z0m_A Kv) Kv (holds_all (z0m_h Kv)) (Nat.le_of_ble_eq_true (by kernel_rfl)) h
  . exact h.elim⟩
/-! Cp_taken -/
def z2o_b0 (f_1 : Addr) (out_3 t_7 : Sl) (t_8 t_9 : Int) (N0 : Addr -> Sl -> Sl -> Int -> Int -> World -> Prop) (K : Pw.T4) (w : World) : Prop :=
  cnd (decide (t_9 < t_8))
    (nz t_7.p fun a3 => (0 <= t_9 /\ t_9 < (t_7.l : Nat)) /\ ∃ x4 : Int, w.cell? (a3.add (t_9.toNat * 1)) = some (Value.int .i64 x4) /\ cnd (decide (x4 >= (0 : Int)))
    (∃ x5 : Sl, w.cell? (f_1.add 1) = some (Value.slice x5.p x5.l x5.c) /\ nz x5.p fun a6 => (0 <= x4 /\ x4 < (x5.l : Nat)) /\ ∃ x7 : Int, w.cell? (a6.add (x4.toNat * 4)) = some (Value.int .i64 x7) /\ ∃ x8 : Int, w.cell? ((a6.add (x4.toNat * 4)).add 1) = some (Value.int .i64 x8) /\ ∃ x9 : Int, w.cell? ((a6.add (x4.toNat * 4)).add 2) = some (Value.int .i64 x9) /\ ∃ x10 : Int, w.cell? ((a6.add (x4.toNat * 4)).add 3) = some (Value.int .i64 x10) /\ let w11 := w.alloc (Obj.cells #[(Value.int .i64 x7), (Value.int .i64 x8), (Value.int .i64 x9), (Value.int .i64 x10)] 65)
  apS 4 32 [(Value.int .i64 0), (Value.int .i64 0), (Value.int .i64 0), (Value.int .i64 0)] 65 out_3 (Sl.mk (some (Addr.mk w.heap.size 0 none)) 1 1) w11 fun s12 w13 => inR .i64 (t_9 + (1 : Int)) /\ N0 f_1 s12 t_7 t_8 (t_9 + (1 : Int)) w13)
    (inR .i64 (t_9 + (1 : Int)) /\ N0 f_1 out_3 t_7 t_8 (t_9 + (1 : Int)) w))
    (K out_3 w)
def z2o_l0d (f_1 : Addr) (out_3 t_7 : Sl) (t_8 t_9 : Int) (K : Pw.T4) (w : World) : Prop :=
  ∃ (I : Sl -> Int -> World -> Prop) (μ : Sl -> Int -> World -> Nat), I out_3 t_9 w /\ ∀ (out_31 : Sl) (t_91 : Int) (w1 : World), I out_31 t_91 w1 ->
    z2o_b0 f_1 out_31 t_7 t_8 t_91 (fun f_1' out_3' t_7' t_8' t_9' w' => ((f_1' = f_1 /\ t_7' = t_7 /\ t_8' = t_8 /\ True) /\ I out_3' t_9' w') /\ μ out_3' t_9' w' < μ out_31 t_91 w1) K w1
structure z2o_l0 (f_1 : Addr) (out_3 t_7 : Sl) (t_8 t_9 : Int) (K : Pw.T4) (w : World) : Prop where
  out : z2o_l0d f_1 out_3 t_7 t_8 t_9 K w
def z2o_sd (f_0_0 f_0_1 f_0_2 : Sl) (f_0_3 f_0_4 : Int) (f_0_5 : Sl) (K : Pw.T4) (w : World) : Prop :=
  let w1 := w.alloc (Obj.cells #[(Value.slice f_0_0.p f_0_0.l f_0_0.c), (Value.slice f_0_1.p f_0_1.l f_0_1.c), (Value.slice f_0_2.p f_0_2.l f_0_2.c), (Value.int .i64 f_0_3), (Value.int .i64 f_0_4), (Value.slice f_0_5.p f_0_5.l f_0_5.c)] 75)
  ∃ x2 : Sl, w1.cell? (Addr.mk w.heap.size 5 none) = some (Value.slice x2.p x2.l x2.c) /\ z2o_l0 (Addr.mk w.heap.size 0 none) (Sl.mk none 0 0) x2 (x2.l : Int) (0 : Int) K w1
structure z2o_sh (f_0_0 f_0_1 f_0_2 : Sl) (f_0_3 f_0_4 : Int) (f_0_5 : Sl) (K : Pw.T4) (w : World) : Prop where
  out : z2o_sd f_0_0 f_0_1 f_0_2 f_0_3 f_0_4 f_0_5 K w
def z2o_P0 (Kv : VW) (ρ : Rho) (vs : List Value) (w : World) : Prop :=
  match ρ, vs with
  | _, [.pointer (some f_1), .slice out_3p out_3l out_3c, .slice t_7p t_7l t_7c, .int .i64 t_8, .int .i64 t_9] => z2o_l0 f_1 ⟨out_3p, out_3l, out_3c⟩ ⟨t_7p, t_7l, t_7c⟩ t_8 t_9 (Pw.kS Kv) w
  | _, _ => False
noncomputable def z2o_S : Pw.Spec := fun vs w Kv =>
  match vs with
  | [.agg ⟨[.slice f_0_0p f_0_0l f_0_0c, .slice f_0_1p f_0_1l f_0_1c, .slice f_0_2p f_0_2l f_0_2c, .int .i64 f_0_3, .int .i64 f_0_4, .slice f_0_5p f_0_5l f_0_5c]⟩] => z2o_sh ⟨f_0_0p, f_0_0l, f_0_0c⟩ ⟨f_0_1p, f_0_1l, f_0_1c⟩ ⟨f_0_2p, f_0_2l, f_0_2c⟩ f_0_3 f_0_4 ⟨f_0_5p, f_0_5l, f_0_5c⟩ (Pw.kS Kv) w
  | _ => False
noncomputable def z2o_E : Pw.Env := []
noncomputable def z2o_C : Code := (Tryz.f60.body).getD .skip
noncomputable def z2o_A (Kv : VW) : Pw.A :=
  (A.seq (A.reg (Pw.rn 2 RA.done))
   (A.seq (A.reg (RA.run RA.done))
   (A.seq (A.seq (A.reg (Pw.rn 4 RA.done))
   (A.blk (A.loop [1, 3, 7, 8, 9] (z2o_P0 Kv) (A.seq (A.reg (RA.run RA.done))
   (A.seq (A.cond A.leaf
   A.leaf)
   (A.seq (A.blk (A.seq (A.reg (Pw.rn 3 RA.done))
   (A.seq (A.reg (Pw.rn 2 RA.done))
   (A.cond (A.reg (Pw.rn 10 RA.done))
   A.leaf))))
   (A.reg (Pw.rn 2 RA.done))))))))
   (A.seq (A.reg (Pw.rn 2 RA.done))
   A.leaf))))
noncomputable def z2o_O (Kv : VW) : List Ob := (obs Tryz.prog z2o_E 26 (z2o_A Kv) z2o_C (fun _ => retQ Tryz.prog Tryz.f60.results Kv))
theorem z2o_e (Kv : VW) (f_0_0p : Option Addr) (f_0_0l f_0_0c : Nat) (f_0_1p : Option Addr) (f_0_1l f_0_1c : Nat) (f_0_2p : Option Addr) (f_0_2l f_0_2c : Nat) (f_0_3 f_0_4 : Int) (f_0_5p : Option Addr) (f_0_5l f_0_5c : Nat) (w : World) : z2o_sd ⟨f_0_0p, f_0_0l, f_0_0c⟩ ⟨f_0_1p, f_0_1l, f_0_1c⟩ ⟨f_0_2p, f_0_2l, f_0_2c⟩ f_0_3 f_0_4 ⟨f_0_5p, f_0_5l, f_0_5c⟩ (Pw.kS Kv) w = W Tryz.prog z2o_E 26 (z2o_A Kv) z2o_C [] (retQ Tryz.prog Tryz.f60.results Kv) [] (startS [(Value.agg #[(Value.slice f_0_0p f_0_0l f_0_0c), (Value.slice f_0_1p f_0_1l f_0_1c), (Value.slice f_0_2p f_0_2l f_0_2c), (Value.int .i64 f_0_3), (Value.int .i64 f_0_4), (Value.slice f_0_5p f_0_5l f_0_5c)])]) w := by kernel_rfl
theorem z2o_e0 (Kv : VW) (N0 : List Value -> World -> Prop) (ρ : Rho) (f_1 : Addr) (out_3p : Option Addr) (out_3l out_3c : Nat) (t_7p : Option Addr) (t_7l t_7c : Nat) (t_8 t_9 : Int) (w : World) : z2o_b0 f_1 ⟨out_3p, out_3l, out_3c⟩ ⟨t_7p, t_7l, t_7c⟩ t_8 t_9 (fun f_1' out_3' t_7' t_8' t_9' w' => N0 [(Value.pointer (some f_1')), (Value.slice out_3'.p out_3'.l out_3'.c), (Value.slice t_7'.p t_7'.l t_7'.c), (Value.int .i64 t_8'), (Value.int .i64 t_9')] w') (Pw.kS Kv) w = goalAt Tryz.prog z2o_E 26 (z2o_O Kv) 0 (N0 :: ρ) [(Value.pointer (some f_1)), (Value.slice out_3p out_3l out_3c), (Value.slice t_7p t_7l t_7c), (Value.int .i64 t_8), (Value.int .i64 t_9)] w := by kernel_rfl
theorem z2o_q0 (Kv : VW) (ρ : Rho) (vs : List Value) (w : World) : labAt (z2o_O Kv) 0 ρ vs w = z2o_P0 Kv ρ vs w := by kernel_rfl
def z2o_I0 (f_10 : Addr) (t_70 : Sl) (t_80 : Int) (I : Sl -> Int -> World -> Prop) (vs : List Value) (w : World) : Prop :=
  match vs with
  | [.pointer (some f_1), .slice out_3p out_3l out_3c, .slice t_7p t_7l t_7c, .int .i64 t_8, .int .i64 t_9] => (f_1 = f_10 /\ ⟨t_7p, t_7l, t_7c⟩ = t_70 /\ t_8 = t_80 /\ True) /\ I ⟨out_3p, out_3l, out_3c⟩ t_9 w
  | _ => False
def z2o_M0 (μ : Sl -> Int -> World -> Nat) (vs : List Value) (w : World) : Nat :=
  match vs with
  | [.pointer (some _f_1), .slice out_3p out_3l out_3c, .slice _t_7p _t_7l _t_7c, .int .i64 _t_8, .int .i64 t_9] => μ ⟨out_3p, out_3l, out_3c⟩ t_9 w
  | _ => 0
theorem z2o_h0 (Kv : VW) : holdsAt Tryz.prog z2o_E 26 (z2o_O Kv) 0 := holdsAt_loop (by kernel_rfl) (fun ρ vs w h => by
  rw [z2o_q0] at h
  unfold z2o_P0 at h
  split at h
  . rename_i ρt f_1 out_3p out_3l out_3c t_7p t_7l t_7c t_8 t_9
    obtain ⟨I, μ, h0, hr⟩ := h.out
    refine ⟨z2o_I0 f_1 ⟨t_7p, t_7l, t_7c⟩ t_8 I, z2o_M0 μ, ⟨⟨rfl, rfl, rfl, trivial⟩, h0⟩, fun vs w hI => ?_⟩
    unfold z2o_I0 at hI
    split at hI
    . obtain ⟨⟨h0, h1, h2, _⟩, hI⟩ := hI
      cases h0; cases h1; cases h2
      rw [← z2o_e0]
      exact hr _ _ _ hI
    . exact hI.elim
  . exact h.elim)
theorem z2o_n (Kv : VW) : obAt (z2o_O Kv) 1 = none := by kernel_rfl
theorem z2o_h (Kv : VW) : ∀ k, holdsAt Tryz.prog z2o_E 26 (z2o_O Kv) k := fun k => match k with
  | 0 => z2o_h0 Kv
  | _k + 1 => holdsAt_ge (z2o_n Kv) (Nat.le_add_left _ _)
theorem z2o_ok : Sound Tryz.prog 60 z2o_S := ⟨Tryz.call60, fun vs w Kv h => by
  unfold z2o_S at h
  split at h
  . have h := h.out
    rw [z2o_e] at h
    exact calls_sound (Γ := z2o_E) progMixed trivial Tryz.func60 (code := z2o_C) (by kernel_rfl) (z2o_A Kv) Kv (holds_all (z2o_h Kv)) (Nat.le_of_ble_eq_true (by kernel_rfl)) h
  . exact h.elim⟩
/-! Cp_crowded -/
def z1c_b0 (f_1 : Addr) (many_3 : Nat) (t_8 : Sl) (t_9 t_10 : Int) (N0 : Addr -> Nat -> Sl -> Int -> Int -> World -> Prop) (K : Pw.T0) (w : World) : Prop :=
  cnd (decide (t_10 < t_9))
    (nz t_8.p fun a11 => (0 <= t_10 /\ t_10 < (t_8.l : Nat)) /\ ∃ x12 : Int, w.cell? (a11.add (t_10.toNat * 4)) = some (Value.int .i64 x12) /\ ∃ x13 : Int, w.cell? ((a11.add (t_10.toNat * 4)).add 1) = some (Value.int .i64 x13) /\ ∃ x14 : Int, w.cell? ((a11.add (t_10.toNat * 4)).add 2) = some (Value.int .i64 x14) /\ ∃ x15 : Int, w.cell? ((a11.add (t_10.toNat * 4)).add 3) = some (Value.int .i64 x15) /\ let w16 := w.alloc (Obj.cells #[(Value.int .i64 0), (Value.int .i64 0), (Value.int .i64 0), (Value.int .i64 0)] 65)
  stN w16 (Addr.mk w.heap.size 0 none) [(Value.int .i64 x12), (Value.int .i64 x13), (Value.int .i64 x14), (Value.int .i64 x15)] fun w17 => ∃ x18 : Int, w17.cell? (Addr.mk w.heap.size 1 none) = some (Value.int .i64 x18) /\ ∃ l19 : List (Int × Int), Mp w17 many_3 .i64 (l19.map fun p => (p.1, Value.int .i64 p.2)) /\ inR .i64 ((mgetD (0 : Int) x18 l19) + (1 : Int)) /\ (∃ l : List (Int × Value), Mp w17 many_3 .i64 l) /\ let w20 := w17.mset many_3 .i64 x18 (Value.int .i64 ((mgetD (0 : Int) x18 l19) + (1 : Int)))
  ∃ x21 : Int, w20.cell? (f_1.add 3) = some (Value.int .i64 x21) /\ cnd (decide (x21 > (0 : Int)))
    (∃ x22 : Int, w20.cell? (Addr.mk w.heap.size 1 none) = some (Value.int .i64 x22) /\ ∃ l23 : List (Int × Int), Mp w20 many_3 .i64 (l23.map fun p => (p.1, Value.int .i64 p.2)) /\ ∃ x24 : Int, w20.cell? (f_1.add 3) = some (Value.int .i64 x24) /\ cnd (decide ((mgetD (0 : Int) x22 l23) > x24))
    (K true w20)
    (inR .i64 (t_10 + (1 : Int)) /\ N0 f_1 many_3 t_8 t_9 (t_10 + (1 : Int)) w20))
    (inR .i64 (t_10 + (1 : Int)) /\ N0 f_1 many_3 t_8 t_9 (t_10 + (1 : Int)) w20))
    (K false w)
def z1c_l0d (f_1 : Addr) (many_3 : Nat) (t_8 : Sl) (t_9 t_10 : Int) (K : Pw.T0) (w : World) : Prop :=
  ∃ (I : Int -> World -> Prop) (μ : Int -> World -> Nat), I t_10 w /\ ∀ (t_101 : Int) (w1 : World), I t_101 w1 ->
    z1c_b0 f_1 many_3 t_8 t_9 t_101 (fun f_1' many_3' t_8' t_9' t_10' w' => ((f_1' = f_1 /\ many_3' = many_3 /\ t_8' = t_8 /\ t_9' = t_9 /\ True) /\ I t_10' w') /\ μ t_10' w' < μ t_101 w1) K w1
structure z1c_l0 (f_1 : Addr) (many_3 : Nat) (t_8 : Sl) (t_9 t_10 : Int) (K : Pw.T0) (w : World) : Prop where
  out : z1c_l0d f_1 many_3 t_8 t_9 t_10 K w
def z1c_sd (f_0_0 f_0_1 f_0_2 : Sl) (f_0_3 f_0_4 : Int) (f_0_5 : Sl) (K : Pw.T0) (w : World) : Prop :=
  let w1 := w.alloc (Obj.cells #[(Value.slice f_0_0.p f_0_0.l f_0_0.c), (Value.slice f_0_1.p f_0_1.l f_0_1.c), (Value.slice f_0_2.p f_0_2.l f_0_2.c), (Value.int .i64 f_0_3), (Value.int .i64 f_0_4), (Value.slice f_0_5.p f_0_5.l f_0_5.c)] 75)
  let w2 := w1.alloc (Obj.map #[] 0)
  ∃ x3 : Sl, w2.cell? (Addr.mk w.heap.size 0 none) = some (Value.slice x3.p x3.l x3.c) /\ ∃ x4 : Sl, w2.cell? (Addr.mk w.heap.size 1 none) = some (Value.slice x4.p x4.l x4.c) /\ ∃ x5 : Sl, w2.cell? (Addr.mk w.heap.size 2 none) = some (Value.slice x5.p x5.l x5.c) /\ ∃ x6 : Int, w2.cell? (Addr.mk w.heap.size 3 none) = some (Value.int .i64 x6) /\ ∃ x7 : Int, w2.cell? (Addr.mk w.heap.size 4 none) = some (Value.int .i64 x7) /\ ∃ x8 : Sl, w2.cell? (Addr.mk w.heap.size 5 none) = some (Value.slice x8.p x8.l x8.c) /\ z2o_sh x3 x4 x5 x6 x7 x8 (fun r10 w9 => z1c_l0 (Addr.mk w.heap.size 0 none) w1.heap.size r10 (r10.l : Int) (0 : Int) K w9) w2
structure z1c_sh (f_0_0 f_0_1 f_0_2 : Sl) (f_0_3 f_0_4 : Int) (f_0_5 : Sl) (K : Pw.T0) (w : World) : Prop where
  out : z1c_sd f_0_0 f_0_1 f_0_2 f_0_3 f_0_4 f_0_5 K w
def z1c_P0 (Kv : VW) (ρ : Rho) (vs : List Value) (w : World) : Prop :=
  match ρ, vs with
  | _, [.pointer (some f_1), .map (some many_3), .slice t_8p t_8l t_8c, .int .i64 t_9, .int .i64 t_10] => z1c_l0 f_1 many_3 ⟨t_8p, t_8l, t_8c⟩ t_9 t_10 (Pw.kB Kv) w
  | _, _ => False
noncomputable def z1c_S : Pw.Spec := fun vs w Kv =>
  match vs with
  | [.agg ⟨[.slice f_0_0p f_0_0l f_0_0c, .slice f_0_1p f_0_1l f_0_1c, .slice f_0_2p f_0_2l f_0_2c, .int .i64 f_0_3, .int .i64 f_0_4, .slice f_0_5p f_0_5l f_0_5c]⟩] => z1c_sh ⟨f_0_0p, f_0_0l, f_0_0c⟩ ⟨f_0_1p, f_0_1l, f_0_1c⟩ ⟨f_0_2p, f_0_2l, f_0_2c⟩ f_0_3 f_0_4 ⟨f_0_5p, f_0_5l, f_0_5c⟩ (Pw.kB Kv) w
  | _ => False
noncomputable def z1c_E : Pw.Env := [(60, z2o_S)]
noncomputable def z1c_C : Code := (Tryz.f66.body).getD .skip
noncomputable def z1c_A (Kv : VW) : Pw.A :=
  (A.seq (A.reg (Pw.rn 2 RA.done))
   (A.seq (A.reg (Pw.rn 2 RA.done))
   (A.seq (A.seq (A.reg (Pw.rn 4 RA.done))
   (A.blk (A.loop [1, 3, 8, 9, 10] (z1c_P0 Kv) (A.seq (A.reg (RA.run RA.done))
   (A.seq (A.cond A.leaf
   A.leaf)
   (A.seq (A.blk (A.seq (A.reg (Pw.rn 4 RA.done))
   (A.seq (A.reg (Pw.rn 6 RA.done))
   (A.seq (A.reg (Pw.rn 5 (RA.spl 23 (Pw.rn 9 RA.done) (Pw.sk 8 (RA.run RA.done)))))
   (A.cond (A.seq (A.reg (RA.run RA.done))
   A.leaf)
   A.leaf)))))
   (A.reg (Pw.rn 2 RA.done))))))))
   (A.seq (A.reg (RA.run RA.done))
   A.leaf))))
noncomputable def z1c_O (Kv : VW) : List Ob := (obs Tryz.prog z1c_E 34 (z1c_A Kv) z1c_C (fun _ => retQ Tryz.prog Tryz.f66.results Kv))
theorem z1c_e (Kv : VW) (f_0_0p : Option Addr) (f_0_0l f_0_0c : Nat) (f_0_1p : Option Addr) (f_0_1l f_0_1c : Nat) (f_0_2p : Option Addr) (f_0_2l f_0_2c : Nat) (f_0_3 f_0_4 : Int) (f_0_5p : Option Addr) (f_0_5l f_0_5c : Nat) (w : World) : z1c_sd ⟨f_0_0p, f_0_0l, f_0_0c⟩ ⟨f_0_1p, f_0_1l, f_0_1c⟩ ⟨f_0_2p, f_0_2l, f_0_2c⟩ f_0_3 f_0_4 ⟨f_0_5p, f_0_5l, f_0_5c⟩ (Pw.kB Kv) w = W Tryz.prog z1c_E 34 (z1c_A Kv) z1c_C [] (retQ Tryz.prog Tryz.f66.results Kv) [] (startS [(Value.agg #[(Value.slice f_0_0p f_0_0l f_0_0c), (Value.slice f_0_1p f_0_1l f_0_1c), (Value.slice f_0_2p f_0_2l f_0_2c), (Value.int .i64 f_0_3), (Value.int .i64 f_0_4), (Value.slice f_0_5p f_0_5l f_0_5c)])]) w := by kernel_rfl
theorem z1c_e0 (Kv : VW) (N0 : List Value -> World -> Prop) (ρ : Rho) (f_1 : Addr) (many_3 : Nat) (t_8p : Option Addr) (t_8l t_8c : Nat) (t_9 t_10 : Int) (w : World) : z1c_b0 f_1 many_3 ⟨t_8p, t_8l, t_8c⟩ t_9 t_10 (fun f_1' many_3' t_8' t_9' t_10' w' => N0 [(Value.pointer (some f_1')), (Value.map (some many_3')), (Value.slice t_8'.p t_8'.l t_8'.c), (Value.int .i64 t_9'), (Value.int .i64 t_10')] w') (Pw.kB Kv) w = goalAt Tryz.prog z1c_E 34 (z1c_O Kv) 0 (N0 :: ρ) [(Value.pointer (some f_1)), (Value.map (some many_3)), (Value.slice t_8p t_8l t_8c), (Value.int .i64 t_9), (Value.int .i64 t_10)] w := by kernel_rfl
theorem z1c_q0 (Kv : VW) (ρ : Rho) (vs : List Value) (w : World) : labAt (z1c_O Kv) 0 ρ vs w = z1c_P0 Kv ρ vs w := by kernel_rfl
def z1c_I0 (f_10 : Addr) (many_30 : Nat) (t_80 : Sl) (t_90 : Int) (I : Int -> World -> Prop) (vs : List Value) (w : World) : Prop :=
  match vs with
  | [.pointer (some f_1), .map (some many_3), .slice t_8p t_8l t_8c, .int .i64 t_9, .int .i64 t_10] => (f_1 = f_10 /\ many_3 = many_30 /\ ⟨t_8p, t_8l, t_8c⟩ = t_80 /\ t_9 = t_90 /\ True) /\ I t_10 w
  | _ => False
def z1c_M0 (μ : Int -> World -> Nat) (vs : List Value) (w : World) : Nat :=
  match vs with
  | [.pointer (some _f_1), .map (some _many_3), .slice _t_8p _t_8l _t_8c, .int .i64 _t_9, .int .i64 t_10] => μ t_10 w
  | _ => 0
theorem z1c_h0 (Kv : VW) : holdsAt Tryz.prog z1c_E 34 (z1c_O Kv) 0 := holdsAt_loop (by kernel_rfl) (fun ρ vs w h => by
  rw [z1c_q0] at h
  unfold z1c_P0 at h
  split at h
  . rename_i ρt f_1 many_3 t_8p t_8l t_8c t_9 t_10
    obtain ⟨I, μ, h0, hr⟩ := h.out
    refine ⟨z1c_I0 f_1 many_3 ⟨t_8p, t_8l, t_8c⟩ t_9 I, z1c_M0 μ, ⟨⟨rfl, rfl, rfl, rfl, trivial⟩, h0⟩, fun vs w hI => ?_⟩
    unfold z1c_I0 at hI
    split at hI
    . obtain ⟨⟨h0, h1, h2, h3, _⟩, hI⟩ := hI
      cases h0; cases h1; cases h2; cases h3
      rw [← z1c_e0]
      exact hr _ _ hI
    . exact hI.elim
  . exact h.elim)
theorem z1c_n (Kv : VW) : obAt (z1c_O Kv) 1 = none := by kernel_rfl
theorem z1c_h (Kv : VW) : ∀ k, holdsAt Tryz.prog z1c_E 34 (z1c_O Kv) k := fun k => match k with
  | 0 => z1c_h0 Kv
  | _k + 1 => holdsAt_ge (z1c_n Kv) (Nat.le_add_left _ _)
theorem z1c_ok : Sound Tryz.prog 66 z1c_S := ⟨Tryz.call66, fun vs w Kv h => by
  unfold z1c_S at h
  split at h
  . have h := h.out
    rw [z1c_e] at h
    exact calls_sound (Γ := z1c_E) progMixed ⟨.inl z2o_ok, trivial⟩ Tryz.func66 (code := z1c_C) (by kernel_rfl) (z1c_A Kv) Kv (holds_all (z1c_h Kv)) (Nat.le_of_ble_eq_true (by kernel_rfl)) h
  . exact h.elim⟩
/-! z3c_1 -/
def z2a_sd (c_0_0 c_0_1 : Int) (c_0_2 c_0_3 : Int) (t_1 t_2 : Addr) (K : Pw.T0) (w : World) : Prop :=
  let w1 := w.alloc (Obj.cells #[(Value.int .i64 c_0_0), (Value.int .i64 c_0_1), (Value.int .i64 c_0_2), (Value.int .i64 c_0_3)] 65)
  ∃ x2 : Int, w1.cell? (Addr.mk w.heap.size 0 none) = some (Value.int .i64 x2) /\ ∃ x3 : Int, w1.cell? t_1 = some (Value.int .i64 x3) /\ cnd (x2 == x3)
    (∃ x4 : Int, w1.cell? (Addr.mk w.heap.size 1 none) = some (Value.int .i64 x4) /\ ∃ x5 : Int, w1.cell? t_2 = some (Value.int .i64 x5) /\ K (x4 == x5) w1)
    (K false w1)
structure z2a_sh (c_0_0 c_0_1 : Int) (c_0_2 c_0_3 : Int) (t_1 t_2 : Addr) (K : Pw.T0) (w : World) : Prop where
  out : z2a_sd c_0_0 c_0_1 c_0_2 c_0_3 t_1 t_2 K w
noncomputable def z2a_S : Pw.Spec := fun vs w Kv =>
  match vs with
  | [.agg ⟨[.int .i64 c_0_0, .int .i64 c_0_1, .int .i64 c_0_2, .int .i64 c_0_3]⟩, .pointer (some t_1), .pointer (some t_2)] => z2a_sh c_0_0 c_0_1 c_0_2 c_0_3 t_1 t_2 (Pw.kB Kv) w
  | _ => False
noncomputable def z2a_E : Pw.Env := []
noncomputable def z2a_C : Code := (Tryz.f109.body).getD .skip
noncomputable def z2a_A (_Kv : VW) : Pw.A :=
  (A.seq (A.reg (Pw.rn 2 RA.done))
   (A.seq (A.reg (Pw.rn 5 (RA.spl 9 (Pw.rn 6 RA.done) (Pw.sk 4 (Pw.rn 2 RA.done)))))
   A.leaf))
noncomputable def z2a_O (Kv : VW) : List Ob := (obs Tryz.prog z2a_E 15 (z2a_A Kv) z2a_C (fun _ => retQ Tryz.prog Tryz.f109.results Kv))
theorem z2a_e (Kv : VW) (c_0_0 c_0_1 : Int) (c_0_2 c_0_3 : Int) (t_1 t_2 : Addr) (w : World) : z2a_sd c_0_0 c_0_1 c_0_2 c_0_3 t_1 t_2 (Pw.kB Kv) w = W Tryz.prog z2a_E 15 (z2a_A Kv) z2a_C [] (retQ Tryz.prog Tryz.f109.results Kv) [] (startS [(Value.agg #[(Value.int .i64 c_0_0), (Value.int .i64 c_0_1), (Value.int .i64 c_0_2), (Value.int .i64 c_0_3)]), (Value.pointer (some t_1)), (Value.pointer (some t_2))]) w := by kernel_rfl
theorem z2a_n (Kv : VW) : obAt (z2a_O Kv) 0 = none := by kernel_rfl
theorem z2a_h (Kv : VW) : ∀ k, holdsAt Tryz.prog z2a_E 15 (z2a_O Kv) k := fun _ => holdsAt_ge (z2a_n Kv) (Nat.zero_le _)
theorem z2a_ok : Sound Tryz.prog 109 z2a_S := ⟨Tryz.call109, fun vs w Kv h => by
  unfold z2a_S at h
  split at h
  . have h := h.out
    rw [z2a_e] at h
    exact calls_sound (Γ := z2a_E) progMixed trivial Tryz.func109 (code := z2a_C) (by kernel_rfl) (z2a_A Kv) Kv (holds_all (z2a_h Kv)) (Nat.le_of_ble_eq_true (by kernel_rfl)) h
  . exact h.elim⟩
/-! Cp_may -/
def z3c_sd (f_0_0 f_0_1 f_0_2 : Sl) (f_0_3 f_0_4 : Int) (f_0_5 : Sl) (lot_1 bidder_2 : Int) (K : Pw.T0) (w : World) : Prop :=
  let w1 := w.alloc (Obj.cells #[(Value.slice f_0_0.p f_0_0.l f_0_0.c), (Value.slice f_0_1.p f_0_1.l f_0_1.c), (Value.slice f_0_2.p f_0_2.l f_0_2.c), (Value.int .i64 f_0_3), (Value.int .i64 f_0_4), (Value.slice f_0_5.p f_0_5.l f_0_5.c)] 75)
  let w2 := w1.alloc (Obj.cells #[(Value.int .i64 lot_1)] 3)
  let w3 := w2.alloc (Obj.cells #[(Value.int .i64 bidder_2)] 3)
  ∃ x4 : Sl, w3.cell? (Addr.mk w.heap.size 0 none) = some (Value.slice x4.p x4.l x4.c) /\ ∃ x5 : Int, w3.cell? (Addr.mk w1.heap.size 0 none) = some (Value.int .i64 x5) /\ z0s_sh x4 x5 (fun r7 w6 => ∃ x8 : Sl, w6.cell? (Addr.mk w.heap.size 5 none) = some (Value.slice x8.p x8.l x8.c) /\ cnd (decide (r7 < (x8.l : Int)))
    (let w9 := w6.drew
  ∃ x10 : Sl, w9.cell? (Addr.mk w.heap.size 5 none) = some (Value.slice x10.p x10.l x10.c) /\ nz x10.p fun a11 => (0 <= r7 /\ r7 < (x10.l : Nat)) /\ ∃ x12 : Int, w9.cell? (a11.add (r7.toNat * 1)) = some (Value.int .i64 x12) /\ cnd (decide (x12 >= (0 : Int)))
    (∃ x13 : Sl, w9.cell? (Addr.mk w.heap.size 1 none) = some (Value.slice x13.p x13.l x13.c) /\ ∃ x14 : Sl, w9.cell? (Addr.mk w.heap.size 5 none) = some (Value.slice x14.p x14.l x14.c) /\ nz x14.p fun a15 => (0 <= r7 /\ r7 < (x14.l : Nat)) /\ ∃ x16 : Int, w9.cell? (a15.add (r7.toNat * 1)) = some (Value.int .i64 x16) /\ nz x13.p fun a17 => (0 <= x16 /\ x16 < (x13.l : Nat)) /\ ∃ x18 : Int, w9.cell? ((a17.add (x16.toNat * 4)).add 1) = some (Value.int .i64 x18) /\ ∃ x19 : Int, w9.cell? (Addr.mk w2.heap.size 0 none) = some (Value.int .i64 x19) /\ K (x18 == x19) w9)
    (K false w9))
    (∃ x20 : Sl, w6.cell? (Addr.mk w.heap.size 1 none) = some (Value.slice x20.p x20.l x20.c) /\ z00_sh x20 (Value.func (.func 109) #[] #[(Value.pointer (some (Addr.mk w1.heap.size 0 none))), (Value.pointer (some (Addr.mk w2.heap.size 0 none)))]) (fun r22 w21 => K r22 w21) w6)) w3
structure z3c_sh (f_0_0 f_0_1 f_0_2 : Sl) (f_0_3 f_0_4 : Int) (f_0_5 : Sl) (lot_1 bidder_2 : Int) (K : Pw.T0) (w : World) : Prop where
  out : z3c_sd f_0_0 f_0_1 f_0_2 f_0_3 f_0_4 f_0_5 lot_1 bidder_2 K w
noncomputable def z3c_S : Pw.Spec := fun vs w Kv =>
  match vs with
  | [.agg ⟨[.slice f_0_0p f_0_0l f_0_0c, .slice f_0_1p f_0_1l f_0_1c, .slice f_0_2p f_0_2l f_0_2c, .int .i64 f_0_3, .int .i64 f_0_4, .slice f_0_5p f_0_5l f_0_5c]⟩, .int .i64 lot_1, .int .i64 bidder_2] => z3c_sh ⟨f_0_0p, f_0_0l, f_0_0c⟩ ⟨f_0_1p, f_0_1l, f_0_1c⟩ ⟨f_0_2p, f_0_2l, f_0_2c⟩ f_0_3 f_0_4 ⟨f_0_5p, f_0_5l, f_0_5c⟩ lot_1 bidder_2 (Pw.kB Kv) w
  | _ => False
noncomputable def z3c_E : Pw.Env := [(72, z0s_S), (75, z00_S)]
noncomputable def z3c_C : Code := (Tryz.f92.body).getD .skip
noncomputable def z3c_A (_Kv : VW) : Pw.A :=
  (A.seq (A.reg (Pw.rn 4 RA.done))
   (A.seq (A.seq (A.reg (Pw.rn 6 RA.done))
   (A.seq (A.reg (Pw.rn 5 RA.done))
   (A.cond (A.seq (A.drp (DA.pur 0 (DA.pur 1 (DA.pur 2 (DA.pur 3 (DA.pur 4 (DA.pur 5 (DA.pur 6 (DA.spl 24 (DA.pur 7 (DA.pur 8 (DA.pur 9 (DA.pur 10 (DA.pur 11 (DA.pur 12 (DA.pur 13 (DA.pur 14 (DA.pur 15 (DA.pur 16 (DA.pur 17 (DA.pur 18 (DA.pur 19 (DA.pur 20 (DA.pur 21 DA.done))))))))))))))) (DA.skp 7 (DA.skp 8 (DA.skp 9 (DA.skp 10 (DA.skp 11 (DA.skp 12 (DA.skp 13 (DA.skp 14 (DA.skp 15 (DA.skp 16 (DA.skp 17 (DA.skp 18 (DA.skp 19 (DA.pur 20 (DA.pur 21 DA.done))))))))))))))))))))))))
   A.leaf)
   A.leaf)))
   (A.seq (A.reg (Pw.rn 6 RA.done))
   A.leaf)))
noncomputable def z3c_O (Kv : VW) : List Ob := (obs Tryz.prog z3c_E 44 (z3c_A Kv) z3c_C (fun _ => retQ Tryz.prog Tryz.f92.results Kv))
theorem z3c_e (Kv : VW) (f_0_0p : Option Addr) (f_0_0l f_0_0c : Nat) (f_0_1p : Option Addr) (f_0_1l f_0_1c : Nat) (f_0_2p : Option Addr) (f_0_2l f_0_2c : Nat) (f_0_3 f_0_4 : Int) (f_0_5p : Option Addr) (f_0_5l f_0_5c : Nat) (lot_1 bidder_2 : Int) (w : World) : z3c_sd ⟨f_0_0p, f_0_0l, f_0_0c⟩ ⟨f_0_1p, f_0_1l, f_0_1c⟩ ⟨f_0_2p, f_0_2l, f_0_2c⟩ f_0_3 f_0_4 ⟨f_0_5p, f_0_5l, f_0_5c⟩ lot_1 bidder_2 (Pw.kB Kv) w = W Tryz.prog z3c_E 44 (z3c_A Kv) z3c_C [] (retQ Tryz.prog Tryz.f92.results Kv) [] (startS [(Value.agg #[(Value.slice f_0_0p f_0_0l f_0_0c), (Value.slice f_0_1p f_0_1l f_0_1c), (Value.slice f_0_2p f_0_2l f_0_2c), (Value.int .i64 f_0_3), (Value.int .i64 f_0_4), (Value.slice f_0_5p f_0_5l f_0_5c)]), (Value.int .i64 lot_1), (Value.int .i64 bidder_2)]) w := by kernel_rfl
theorem z3c_n (Kv : VW) : obAt (z3c_O Kv) 0 = none := by kernel_rfl
theorem z3c_h (Kv : VW) : ∀ k, holdsAt Tryz.prog z3c_E 44 (z3c_O Kv) k := fun _ => holdsAt_ge (z3c_n Kv) (Nat.zero_le _)
theorem z3c_ok : Sound Tryz.prog 92 z3c_S := ⟨Tryz.call92, fun vs w Kv h => by
  unfold z3c_S at h
  split at h
  . have h := h.out
    rw [z3c_e] at h
    exact calls_sound (Γ := z3c_E) progMixed ⟨.inl z0s_ok, .inl z00_ok, trivial⟩ Tryz.func92 (code := z3c_C) (by kernel_rfl) (z3c_A Kv) Kv (holds_all (z3c_h Kv)) (Nat.le_of_ble_eq_true (by kernel_rfl)) h
  . exact h.elim⟩
/-! z2z_1 -/
def z1r_sd (id_0 : Int) (t_1 t_2 : Addr) (K : Pw.T0) (w : World) : Prop :=
  ∃ x1 : Sl, w.cell? t_1 = some (Value.slice x1.p x1.l x1.c) /\ ∃ x2 : Sl, w.cell? (t_1.add 1) = some (Value.slice x2.p x2.l x2.c) /\ ∃ x3 : Sl, w.cell? (t_1.add 2) = some (Value.slice x3.p x3.l x3.c) /\ ∃ x4 : Int, w.cell? (t_1.add 3) = some (Value.int .i64 x4) /\ ∃ x5 : Int, w.cell? (t_1.add 4) = some (Value.int .i64 x5) /\ ∃ x6 : Sl, w.cell? (t_1.add 5) = some (Value.slice x6.p x6.l x6.c) /\ ∃ x7 : Int, w.cell? t_2 = some (Value.int .i64 x7) /\ z3c_sh x1 x2 x3 x4 x5 x6 id_0 x7 (fun r9 w8 => K r9 w8) w
structure z1r_sh (id_0 : Int) (t_1 t_2 : Addr) (K : Pw.T0) (w : World) : Prop where
  out : z1r_sd id_0 t_1 t_2 K w
noncomputable def z1r_S : Pw.Spec := fun vs w Kv =>
  match vs with
  | [.int .i64 id_0, .pointer (some t_1), .pointer (some t_2)] => z1r_sh id_0 t_1 t_2 (Pw.kB Kv) w
  | _ => False
noncomputable def z1r_E : Pw.Env := [(92, z3c_S)]
noncomputable def z1r_C : Code := (Tryz.f91.body).getD .skip
noncomputable def z1r_A (_Kv : VW) : Pw.A :=
  (A.seq (A.reg (RA.run RA.done))
   (A.seq (A.reg (Pw.rn 6 RA.done))
   A.leaf))
noncomputable def z1r_O (Kv : VW) : List Ob := (obs Tryz.prog z1r_E 10 (z1r_A Kv) z1r_C (fun _ => retQ Tryz.prog Tryz.f91.results Kv))
theorem z1r_e (Kv : VW) (id_0 : Int) (t_1 t_2 : Addr) (w : World) : z1r_sd id_0 t_1 t_2 (Pw.kB Kv) w = W Tryz.prog z1r_E 10 (z1r_A Kv) z1r_C [] (retQ Tryz.prog Tryz.f91.results Kv) [] (startS [(Value.int .i64 id_0), (Value.pointer (some t_1)), (Value.pointer (some t_2))]) w := by kernel_rfl
theorem z1r_n (Kv : VW) : obAt (z1r_O Kv) 0 = none := by kernel_rfl
theorem z1r_h (Kv : VW) : ∀ k, holdsAt Tryz.prog z1r_E 10 (z1r_O Kv) k := fun _ => holdsAt_ge (z1r_n Kv) (Nat.zero_le _)
theorem z1r_ok : Sound Tryz.prog 91 z1r_S := ⟨Tryz.call91, fun vs w Kv h => by
  unfold z1r_S at h
  split at h
  . have h := h.out
    rw [z1r_e] at h
    exact calls_sound (Γ := z1r_E) progMixed ⟨.inl z3c_ok, trivial⟩ Tryz.func91 (code := z1r_C) (by kernel_rfl) (z1r_A Kv) Kv (holds_all (z1r_h Kv)) (Nat.le_of_ble_eq_true (by kernel_rfl)) h
  . exact h.elim⟩
/-! Cp_offs -/
def z2z_b0 (f_1 : Addr) (sum_3 : Int) (t_8 : Sl) (t_9 t_10 : Int) (N0 : Addr -> Int -> Sl -> Int -> Int -> World -> Prop) (K : Pw.T1) (w : World) : Prop :=
  cnd (decide (t_10 < t_9))
    (nz t_8.p fun a3 => (0 <= t_10 /\ t_10 < (t_8.l : Nat)) /\ ∃ x4 : Int, w.cell? (a3.add (t_10.toNat * 3)) = some (Value.int .i64 x4) /\ ∃ x5 : Sl, w.cell? ((a3.add (t_10.toNat * 3)).add 1) = some (Value.slice x5.p x5.l x5.c) /\ ∃ x6 : Int, w.cell? ((a3.add (t_10.toNat * 3)).add 2) = some (Value.int .i64 x6) /\ let w7 := w.alloc (Obj.cells #[(Value.int .i64 0), (Value.slice none 0 0), (Value.int .i64 0)] 67)
  stN w7 (Addr.mk w.heap.size 0 none) [(Value.int .i64 x4), (Value.slice x5.p x5.l x5.c), (Value.int .i64 x6)] fun w8 => ∃ x9 : Sl, w8.cell? (Addr.mk w.heap.size 1 none) = some (Value.slice x9.p x9.l x9.c) /\ z3f_sh x9 (Value.func (.func 91) #[] #[(Value.pointer (some f_1)), (Value.pointer (some (Addr.mk w.heap.size 0 none)))]) (fun r11 w10 => cnd r11
    (∃ x12 : Int, w10.cell? (Addr.mk w.heap.size 2 none) = some (Value.int .i64 x12) /\ inR .i64 (sum_3 + x12) /\ inR .i64 (t_10 + (1 : Int)) /\ N0 f_1 (sum_3 + x12) t_8 t_9 (t_10 + (1 : Int)) w10)
    (inR .i64 (t_10 + (1 : Int)) /\ N0 f_1 sum_3 t_8 t_9 (t_10 + (1 : Int)) w10)) w8)
    (K sum_3 w)
def z2z_l0d (f_1 : Addr) (sum_3 : Int) (t_8 : Sl) (t_9 t_10 : Int) (K : Pw.T1) (w : World) : Prop :=
  ∃ (I : Int -> Int -> World -> Prop) (μ : Int -> Int -> World -> Nat), I sum_3 t_10 w /\ ∀ (sum_31 t_101 : Int) (w1 : World), I sum_31 t_101 w1 ->
    z2z_b0 f_1 sum_31 t_8 t_9 t_101 (fun f_1' sum_3' t_8' t_9' t_10' w' => ((f_1' = f_1 /\ t_8' = t_8 /\ t_9' = t_9 /\ True) /\ I sum_3' t_10' w') /\ μ sum_3' t_10' w' < μ sum_31 t_101 w1) K w1
structure z2z_l0 (f_1 : Addr) (sum_3 : Int) (t_8 : Sl) (t_9 t_10 : Int) (K : Pw.T1) (w : World) : Prop where
  out : z2z_l0d f_1 sum_3 t_8 t_9 t_10 K w
def z2z_sd (f_0_0 f_0_1 f_0_2 : Sl) (f_0_3 f_0_4 : Int) (f_0_5 : Sl) (K : Pw.T1) (w : World) : Prop :=
  let w1 := w.alloc (Obj.cells #[(Value.slice f_0_0.p f_0_0.l f_0_0.c), (Value.slice f_0_1.p f_0_1.l f_0_1.c), (Value.slice f_0_2.p f_0_2.l f_0_2.c), (Value.int .i64 f_0_3), (Value.int .i64 f_0_4), (Value.slice f_0_5.p f_0_5.l f_0_5.c)] 75)
  ∃ x2 : Sl, w1.cell? (Addr.mk w.heap.size 2 none) = some (Value.slice x2.p x2.l x2.c) /\ z2z_l0 (Addr.mk w.heap.size 0 none) (0 : Int) x2 (x2.l : Int) (0 : Int) K w1
structure z2z_sh (f_0_0 f_0_1 f_0_2 : Sl) (f_0_3 f_0_4 : Int) (f_0_5 : Sl) (K : Pw.T1) (w : World) : Prop where
  out : z2z_sd f_0_0 f_0_1 f_0_2 f_0_3 f_0_4 f_0_5 K w
def z2z_P0 (Kv : VW) (ρ : Rho) (vs : List Value) (w : World) : Prop :=
  match ρ, vs with
  | _, [.pointer (some f_1), .int .i64 sum_3, .slice t_8p t_8l t_8c, .int .i64 t_9, .int .i64 t_10] => z2z_l0 f_1 sum_3 ⟨t_8p, t_8l, t_8c⟩ t_9 t_10 (Pw.kI Kv) w
  | _, _ => False
noncomputable def z2z_S : Pw.Spec := fun vs w Kv =>
  match vs with
  | [.agg ⟨[.slice f_0_0p f_0_0l f_0_0c, .slice f_0_1p f_0_1l f_0_1c, .slice f_0_2p f_0_2l f_0_2c, .int .i64 f_0_3, .int .i64 f_0_4, .slice f_0_5p f_0_5l f_0_5c]⟩] => z2z_sh ⟨f_0_0p, f_0_0l, f_0_0c⟩ ⟨f_0_1p, f_0_1l, f_0_1c⟩ ⟨f_0_2p, f_0_2l, f_0_2c⟩ f_0_3 f_0_4 ⟨f_0_5p, f_0_5l, f_0_5c⟩ (Pw.kI Kv) w
  | _ => False
noncomputable def z2z_E : Pw.Env := [(51, z3f_S)]
noncomputable def z2z_C : Code := (Tryz.f71.body).getD .skip
noncomputable def z2z_A (Kv : VW) : Pw.A :=
  (A.seq (A.reg (Pw.rn 2 RA.done))
   (A.seq (A.reg (RA.run RA.done))
   (A.seq (A.seq (A.reg (Pw.rn 5 RA.done))
   (A.blk (A.loop [1, 3, 8, 9, 10] (z2z_P0 Kv) (A.seq (A.reg (RA.run RA.done))
   (A.seq (A.cond A.leaf
   A.leaf)
   (A.seq (A.blk (A.seq (A.reg (Pw.rn 4 RA.done))
   (A.seq (A.reg (Pw.rn 4 RA.done))
   (A.cond (A.reg (Pw.rn 5 RA.done))
   A.leaf))))
   (A.reg (Pw.rn 2 RA.done))))))))
   (A.seq (A.reg (Pw.rn 2 RA.done))
   A.leaf))))
noncomputable def z2z_O (Kv : VW) : List Ob := (obs Tryz.prog z2z_E 24 (z2z_A Kv) z2z_C (fun _ => retQ Tryz.prog Tryz.f71.results Kv))
theorem z2z_e (Kv : VW) (f_0_0p : Option Addr) (f_0_0l f_0_0c : Nat) (f_0_1p : Option Addr) (f_0_1l f_0_1c : Nat) (f_0_2p : Option Addr) (f_0_2l f_0_2c : Nat) (f_0_3 f_0_4 : Int) (f_0_5p : Option Addr) (f_0_5l f_0_5c : Nat) (w : World) : z2z_sd ⟨f_0_0p, f_0_0l, f_0_0c⟩ ⟨f_0_1p, f_0_1l, f_0_1c⟩ ⟨f_0_2p, f_0_2l, f_0_2c⟩ f_0_3 f_0_4 ⟨f_0_5p, f_0_5l, f_0_5c⟩ (Pw.kI Kv) w = W Tryz.prog z2z_E 24 (z2z_A Kv) z2z_C [] (retQ Tryz.prog Tryz.f71.results Kv) [] (startS [(Value.agg #[(Value.slice f_0_0p f_0_0l f_0_0c), (Value.slice f_0_1p f_0_1l f_0_1c), (Value.slice f_0_2p f_0_2l f_0_2c), (Value.int .i64 f_0_3), (Value.int .i64 f_0_4), (Value.slice f_0_5p f_0_5l f_0_5c)])]) w := by kernel_rfl
theorem z2z_e0 (Kv : VW) (N0 : List Value -> World -> Prop) (ρ : Rho) (f_1 : Addr) (sum_3 : Int) (t_8p : Option Addr) (t_8l t_8c : Nat) (t_9 t_10 : Int) (w : World) : z2z_b0 f_1 sum_3 ⟨t_8p, t_8l, t_8c⟩ t_9 t_10 (fun f_1' sum_3' t_8' t_9' t_10' w' => N0 [(Value.pointer (some f_1')), (Value.int .i64 sum_3'), (Value.slice t_8'.p t_8'.l t_8'.c), (Value.int .i64 t_9'), (Value.int .i64 t_10')] w') (Pw.kI Kv) w = goalAt Tryz.prog z2z_E 24 (z2z_O Kv) 0 (N0 :: ρ) [(Value.pointer (some f_1)), (Value.int .i64 sum_3), (Value.slice t_8p t_8l t_8c), (Value.int .i64 t_9), (Value.int .i64 t_10)] w := by kernel_rfl
theorem z2z_q0 (Kv : VW) (ρ : Rho) (vs : List Value) (w : World) : labAt (z2z_O Kv) 0 ρ vs w = z2z_P0 Kv ρ vs w := by kernel_rfl
def z2z_I0 (f_10 : Addr) (t_80 : Sl) (t_90 : Int) (I : Int -> Int -> World -> Prop) (vs : List Value) (w : World) : Prop :=
  match vs with
  | [.pointer (some f_1), .int .i64 sum_3, .slice t_8p t_8l t_8c, .int .i64 t_9, .int .i64 t_10] => (f_1 = f_10 /\ ⟨t_8p, t_8l, t_8c⟩ = t_80 /\ t_9 = t_90 /\ True) /\ I sum_3 t_10 w
  | _ => False
def z2z_M0 (μ : Int -> Int -> World -> Nat) (vs : List Value) (w : World) : Nat :=
  match vs with
  | [.pointer (some _f_1), .int .i64 sum_3, .slice _t_8p _t_8l _t_8c, .int .i64 _t_9, .int .i64 t_10] => μ sum_3 t_10 w
  | _ => 0
theorem z2z_h0 (Kv : VW) : holdsAt Tryz.prog z2z_E 24 (z2z_O Kv) 0 := holdsAt_loop (by kernel_rfl) (fun ρ vs w h => by
  rw [z2z_q0] at h
  unfold z2z_P0 at h
  split at h
  . rename_i ρt f_1 sum_3 t_8p t_8l t_8c t_9 t_10
    obtain ⟨I, μ, h0, hr⟩ := h.out
    refine ⟨z2z_I0 f_1 ⟨t_8p, t_8l, t_8c⟩ t_9 I, z2z_M0 μ, ⟨⟨rfl, rfl, rfl, trivial⟩, h0⟩, fun vs w hI => ?_⟩
    unfold z2z_I0 at hI
    split at hI
    . obtain ⟨⟨h0, h1, h2, _⟩, hI⟩ := hI
      cases h0; cases h1; cases h2
      rw [← z2z_e0]
      exact hr _ _ _ hI
    . exact hI.elim
  . exact h.elim)
theorem z2z_n (Kv : VW) : obAt (z2z_O Kv) 1 = none := by kernel_rfl
theorem z2z_h (Kv : VW) : ∀ k, holdsAt Tryz.prog z2z_E 24 (z2z_O Kv) k := fun k => match k with
  | 0 => z2z_h0 Kv
  | _k + 1 => holdsAt_ge (z2z_n Kv) (Nat.le_add_left _ _)
theorem z2z_ok : Sound Tryz.prog 71 z2z_S := ⟨Tryz.call71, fun vs w Kv h => by
  unfold z2z_S at h
  split at h
  . have h := h.out
    rw [z2z_e] at h
    exact calls_sound (Γ := z2z_E) progMixed ⟨.inl z3f_ok, trivial⟩ Tryz.func71 (code := z2z_C) (by kernel_rfl) (z2z_A Kv) Kv (holds_all (z2z_h Kv)) (Nat.le_of_ble_eq_true (by kernel_rfl)) h
  . exact h.elim⟩
/-! Cp_least -/
def z2j_b0 (f_1 : Addr) (sum_3 : Int) (t_7 : Sl) (t_8 t_9 : Int) (N0 : Addr -> Int -> Sl -> Int -> Int -> World -> Prop) (K : Pw.T1) (w : World) : Prop :=
  cnd (decide (t_9 < t_8))
    (nz t_7.p fun a10 => (0 <= t_9 /\ t_9 < (t_7.l : Nat)) /\ ∃ x11 : Int, w.cell? (a10.add (t_9.toNat * 4)) = some (Value.int .i64 x11) /\ ∃ x12 : Int, w.cell? ((a10.add (t_9.toNat * 4)).add 1) = some (Value.int .i64 x12) /\ ∃ x13 : Int, w.cell? ((a10.add (t_9.toNat * 4)).add 2) = some (Value.int .i64 x13) /\ ∃ x14 : Int, w.cell? ((a10.add (t_9.toNat * 4)).add 3) = some (Value.int .i64 x14) /\ let w15 := w.alloc (Obj.cells #[(Value.int .i64 0), (Value.int .i64 0), (Value.int .i64 0), (Value.int .i64 0)] 65)
  stN w15 (Addr.mk w.heap.size 0 none) [(Value.int .i64 x11), (Value.int .i64 x12), (Value.int .i64 x13), (Value.int .i64 x14)] fun w16 => ∃ x17 : Int, w16.cell? (Addr.mk w.heap.size 2 none) = some (Value.int .i64 x17) /\ inR .i64 (sum_3 + x17) /\ inR .i64 (t_9 + (1 : Int)) /\ N0 f_1 (sum_3 + x17) t_7 t_8 (t_9 + (1 : Int)) w16)
    (∃ x18 : Sl, w.cell? f_1 = some (Value.slice x18.p x18.l x18.c) /\ ∃ x19 : Sl, w.cell? (f_1.add 1) = some (Value.slice x19.p x19.l x19.c) /\ ∃ x20 : Sl, w.cell? (f_1.add 2) = some (Value.slice x20.p x20.l x20.c) /\ ∃ x21 : Int, w.cell? (f_1.add 3) = some (Value.int .i64 x21) /\ ∃ x22 : Int, w.cell? (f_1.add 4) = some (Value.int .i64 x22) /\ ∃ x23 : Sl, w.cell? (f_1.add 5) = some (Value.slice x23.p x23.l x23.c) /\ z2z_sh x18 x19 x20 x21 x22 x23 (fun r25 w24 => inR .i64 (sum_3 - r25) /\ K (max (0 : Int) (sum_3 - r25)) w24) w)
def z2j_l0d (f_1 : Addr) (sum_3 : Int) (t_7 : Sl) (t_8 t_9 : Int) (K : Pw.T1) (w : World) : Prop :=
  ∃ (I : Int -> Int -> World -> Prop) (μ : Int -> Int -> World -> Nat), I sum_3 t_9 w /\ ∀ (sum_31 t_91 : Int) (w1 : World), I sum_31 t_91 w1 ->
    z2j_b0 f_1 sum_31 t_7 t_8 t_91 (fun f_1' sum_3' t_7' t_8' t_9' w' => ((f_1' = f_1 /\ t_7' = t_7 /\ t_8' = t_8 /\ True) /\ I sum_3' t_9' w') /\ μ sum_3' t_9' w' < μ sum_31 t_91 w1) K w1
structure z2j_l0 (f_1 : Addr) (sum_3 : Int) (t_7 : Sl) (t_8 t_9 : Int) (K : Pw.T1) (w : World) : Prop where
  out : z2j_l0d f_1 sum_3 t_7 t_8 t_9 K w
def z2j_sd (f_0_0 f_0_1 f_0_2 : Sl) (f_0_3 f_0_4 : Int) (f_0_5 : Sl) (K : Pw.T1) (w : World) : Prop :=
  let w1 := w.alloc (Obj.cells #[(Value.slice f_0_0.p f_0_0.l f_0_0.c), (Value.slice f_0_1.p f_0_1.l f_0_1.c), (Value.slice f_0_2.p f_0_2.l f_0_2.c), (Value.int .i64 f_0_3), (Value.int .i64 f_0_4), (Value.slice f_0_5.p f_0_5.l f_0_5.c)] 75)
  ∃ x2 : Sl, w1.cell? (Addr.mk w.heap.size 0 none) = some (Value.slice x2.p x2.l x2.c) /\ ∃ x3 : Sl, w1.cell? (Addr.mk w.heap.size 1 none) = some (Value.slice x3.p x3.l x3.c) /\ ∃ x4 : Sl, w1.cell? (Addr.mk w.heap.size 2 none) = some (Value.slice x4.p x4.l x4.c) /\ ∃ x5 : Int, w1.cell? (Addr.mk w.heap.size 3 none) = some (Value.int .i64 x5) /\ ∃ x6 : Int, w1.cell? (Addr.mk w.heap.size 4 none) = some (Value.int .i64 x6) /\ ∃ x7 : Sl, w1.cell? (Addr.mk w.heap.size 5 none) = some (Value.slice x7.p x7.l x7.c) /\ z2o_sh x2 x3 x4 x5 x6 x7 (fun r9 w8 => z2j_l0 (Addr.mk w.heap.size 0 none) (0 : Int) r9 (r9.l : Int) (0 : Int) K w8) w1
structure z2j_sh (f_0_0 f_0_1 f_0_2 : Sl) (f_0_3 f_0_4 : Int) (f_0_5 : Sl) (K : Pw.T1) (w : World) : Prop where
  out : z2j_sd f_0_0 f_0_1 f_0_2 f_0_3 f_0_4 f_0_5 K w
def z2j_P0 (Kv : VW) (ρ : Rho) (vs : List Value) (w : World) : Prop :=
  match ρ, vs with
  | _, [.pointer (some f_1), .int .i64 sum_3, .slice t_7p t_7l t_7c, .int .i64 t_8, .int .i64 t_9] => z2j_l0 f_1 sum_3 ⟨t_7p, t_7l, t_7c⟩ t_8 t_9 (Pw.kI Kv) w
  | _, _ => False
noncomputable def z2j_S : Pw.Spec := fun vs w Kv =>
  match vs with
  | [.agg ⟨[.slice f_0_0p f_0_0l f_0_0c, .slice f_0_1p f_0_1l f_0_1c, .slice f_0_2p f_0_2l f_0_2c, .int .i64 f_0_3, .int .i64 f_0_4, .slice f_0_5p f_0_5l f_0_5c]⟩] => z2j_sh ⟨f_0_0p, f_0_0l, f_0_0c⟩ ⟨f_0_1p, f_0_1l, f_0_1c⟩ ⟨f_0_2p, f_0_2l, f_0_2c⟩ f_0_3 f_0_4 ⟨f_0_5p, f_0_5l, f_0_5c⟩ (Pw.kI Kv) w
  | _ => False
noncomputable def z2j_E : Pw.Env := [(60, z2o_S), (71, z2z_S)]
noncomputable def z2j_C : Code := (Tryz.f45.body).getD .skip
noncomputable def z2j_A (Kv : VW) : Pw.A :=
  (A.seq (A.reg (Pw.rn 2 RA.done))
   (A.seq (A.reg (RA.run RA.done))
   (A.seq (A.seq (A.reg (Pw.rn 4 RA.done))
   (A.blk (A.loop [1, 3, 7, 8, 9] (z2j_P0 Kv) (A.seq (A.reg (RA.run RA.done))
   (A.seq (A.cond A.leaf
   A.leaf)
   (A.seq (A.blk (A.seq (A.reg (Pw.rn 4 RA.done))
   (A.reg (Pw.rn 5 RA.done))))
   (A.reg (Pw.rn 2 RA.done))))))))
   (A.seq (A.reg (Pw.rn 6 RA.done))
   A.leaf))))
noncomputable def z2j_O (Kv : VW) : List Ob := (obs Tryz.prog z2j_E 23 (z2j_A Kv) z2j_C (fun _ => retQ Tryz.prog Tryz.f45.results Kv))
theorem z2j_e (Kv : VW) (f_0_0p : Option Addr) (f_0_0l f_0_0c : Nat) (f_0_1p : Option Addr) (f_0_1l f_0_1c : Nat) (f_0_2p : Option Addr) (f_0_2l f_0_2c : Nat) (f_0_3 f_0_4 : Int) (f_0_5p : Option Addr) (f_0_5l f_0_5c : Nat) (w : World) : z2j_sd ⟨f_0_0p, f_0_0l, f_0_0c⟩ ⟨f_0_1p, f_0_1l, f_0_1c⟩ ⟨f_0_2p, f_0_2l, f_0_2c⟩ f_0_3 f_0_4 ⟨f_0_5p, f_0_5l, f_0_5c⟩ (Pw.kI Kv) w = W Tryz.prog z2j_E 23 (z2j_A Kv) z2j_C [] (retQ Tryz.prog Tryz.f45.results Kv) [] (startS [(Value.agg #[(Value.slice f_0_0p f_0_0l f_0_0c), (Value.slice f_0_1p f_0_1l f_0_1c), (Value.slice f_0_2p f_0_2l f_0_2c), (Value.int .i64 f_0_3), (Value.int .i64 f_0_4), (Value.slice f_0_5p f_0_5l f_0_5c)])]) w := by kernel_rfl
theorem z2j_e0 (Kv : VW) (N0 : List Value -> World -> Prop) (ρ : Rho) (f_1 : Addr) (sum_3 : Int) (t_7p : Option Addr) (t_7l t_7c : Nat) (t_8 t_9 : Int) (w : World) : z2j_b0 f_1 sum_3 ⟨t_7p, t_7l, t_7c⟩ t_8 t_9 (fun f_1' sum_3' t_7' t_8' t_9' w' => N0 [(Value.pointer (some f_1')), (Value.int .i64 sum_3'), (Value.slice t_7'.p t_7'.l t_7'.c), (Value.int .i64 t_8'), (Value.int .i64 t_9')] w') (Pw.kI Kv) w = goalAt Tryz.prog z2j_E 23 (z2j_O Kv) 0 (N0 :: ρ) [(Value.pointer (some f_1)), (Value.int .i64 sum_3), (Value.slice t_7p t_7l t_7c), (Value.int .i64 t_8), (Value.int .i64 t_9)] w := by kernel_rfl
theorem z2j_q0 (Kv : VW) (ρ : Rho) (vs : List Value) (w : World) : labAt (z2j_O Kv) 0 ρ vs w = z2j_P0 Kv ρ vs w := by kernel_rfl
def z2j_I0 (f_10 : Addr) (t_70 : Sl) (t_80 : Int) (I : Int -> Int -> World -> Prop) (vs : List Value) (w : World) : Prop :=
  match vs with
  | [.pointer (some f_1), .int .i64 sum_3, .slice t_7p t_7l t_7c, .int .i64 t_8, .int .i64 t_9] => (f_1 = f_10 /\ ⟨t_7p, t_7l, t_7c⟩ = t_70 /\ t_8 = t_80 /\ True) /\ I sum_3 t_9 w
  | _ => False
def z2j_M0 (μ : Int -> Int -> World -> Nat) (vs : List Value) (w : World) : Nat :=
  match vs with
  | [.pointer (some _f_1), .int .i64 sum_3, .slice _t_7p _t_7l _t_7c, .int .i64 _t_8, .int .i64 t_9] => μ sum_3 t_9 w
  | _ => 0
theorem z2j_h0 (Kv : VW) : holdsAt Tryz.prog z2j_E 23 (z2j_O Kv) 0 := holdsAt_loop (by kernel_rfl) (fun ρ vs w h => by
  rw [z2j_q0] at h
  unfold z2j_P0 at h
  split at h
  . rename_i ρt f_1 sum_3 t_7p t_7l t_7c t_8 t_9
    obtain ⟨I, μ, h0, hr⟩ := h.out
    refine ⟨z2j_I0 f_1 ⟨t_7p, t_7l, t_7c⟩ t_8 I, z2j_M0 μ, ⟨⟨rfl, rfl, rfl, trivial⟩, h0⟩, fun vs w hI => ?_⟩
    unfold z2j_I0 at hI
    split at hI
    . obtain ⟨⟨h0, h1, h2, _⟩, hI⟩ := hI
      cases h0; cases h1; cases h2
      rw [← z2j_e0]
      exact hr _ _ _ hI
    . exact hI.elim
  . exact h.elim)
theorem z2j_n (Kv : VW) : obAt (z2j_O Kv) 1 = none := by kernel_rfl
theorem z2j_h (Kv : VW) : ∀ k, holdsAt Tryz.prog z2j_E 23 (z2j_O Kv) k := fun k => match k with
  | 0 => z2j_h0 Kv
  | _k + 1 => holdsAt_ge (z2j_n Kv) (Nat.le_add_left _ _)
theorem z2j_ok : Sound Tryz.prog 45 z2j_S := ⟨Tryz.call45, fun vs w Kv h => by
  unfold z2j_S at h
  split at h
  . have h := h.out
    rw [z2j_e] at h
    exact calls_sound (Γ := z2j_E) progMixed ⟨.inl z2o_ok, .inl z2z_ok, trivial⟩ Tryz.func45 (code := z2j_C) (by kernel_rfl) (z2j_A Kv) Kv (holds_all (z2j_h Kv)) (Nat.le_of_ble_eq_true (by kernel_rfl)) h
  . exact h.elim⟩
/-! Cp_net -/
def z3k_sd (f_0_0 f_0_1 f_0_2 : Sl) (f_0_3 f_0_4 : Int) (f_0_5 : Sl) (c_1_0 c_1_1 : Int) (c_1_2 c_1_3 : Int) (K : Pw.T1) (w : World) : Prop :=
  let w1 := w.alloc (Obj.cells #[(Value.slice f_0_0.p f_0_0.l f_0_0.c), (Value.slice f_0_1.p f_0_1.l f_0_1.c), (Value.slice f_0_2.p f_0_2.l f_0_2.c), (Value.int .i64 f_0_3), (Value.int .i64 f_0_4), (Value.slice f_0_5.p f_0_5.l f_0_5.c)] 75)
  let w2 := w1.alloc (Obj.cells #[(Value.int .i64 c_1_0), (Value.int .i64 c_1_1), (Value.int .i64 c_1_2), (Value.int .i64 c_1_3)] 65)
  ∃ x3 : Int, w2.cell? (Addr.mk w1.heap.size 3 none) = some (Value.int .i64 x3) /\ ∃ x4 : Int, w2.cell? (Addr.mk w.heap.size 4 none) = some (Value.int .i64 x4) /\ inR .i64 (x4 + (1 : Int)) /\ inR .i64 (x3 * (x4 + (1 : Int))) /\ ∃ x5 : Int, w2.cell? (Addr.mk w1.heap.size 2 none) = some (Value.int .i64 x5) /\ inR .i64 ((x3 * (x4 + (1 : Int))) - x5) /\ K ((x3 * (x4 + (1 : Int))) - x5) w2
structure z3k_sh (f_0_0 f_0_1 f_0_2 : Sl) (f_0_3 f_0_4 : Int) (f_0_5 : Sl) (c_1_0 c_1_1 : Int) (c_1_2 c_1_3 : Int) (K : Pw.T1) (w : World) : Prop where
  out : z3k_sd f_0_0 f_0_1 f_0_2 f_0_3 f_0_4 f_0_5 c_1_0 c_1_1 c_1_2 c_1_3 K w
noncomputable def z3k_S : Pw.Spec := fun vs w Kv =>
  match vs with
  | [.agg ⟨[.slice f_0_0p f_0_0l f_0_0c, .slice f_0_1p f_0_1l f_0_1c, .slice f_0_2p f_0_2l f_0_2c, .int .i64 f_0_3, .int .i64 f_0_4, .slice f_0_5p f_0_5l f_0_5c]⟩, .agg ⟨[.int .i64 c_1_0, .int .i64 c_1_1, .int .i64 c_1_2, .int .i64 c_1_3]⟩] => z3k_sh ⟨f_0_0p, f_0_0l, f_0_0c⟩ ⟨f_0_1p, f_0_1l, f_0_1c⟩ ⟨f_0_2p, f_0_2l, f_0_2c⟩ f_0_3 f_0_4 ⟨f_0_5p, f_0_5l, f_0_5c⟩ c_1_0 c_1_1 c_1_2 c_1_3 (Pw.kI Kv) w
  | _ => False
noncomputable def z3k_E : Pw.Env := []
noncomputable def z3k_C : Code := (Tryz.f97.body).getD .skip
noncomputable def z3k_A (_Kv : VW) : Pw.A :=
  (A.seq (A.reg (Pw.rn 3 RA.done))
   (A.seq (A.reg (Pw.rn 11 RA.done))
   A.leaf))
noncomputable def z3k_O (Kv : VW) : List Ob := (obs Tryz.prog z3k_E 15 (z3k_A Kv) z3k_C (fun _ => retQ Tryz.prog Tryz.f97.results Kv))
theorem z3k_e (Kv : VW) (f_0_0p : Option Addr) (f_0_0l f_0_0c : Nat) (f_0_1p : Option Addr) (f_0_1l f_0_1c : Nat) (f_0_2p : Option Addr) (f_0_2l f_0_2c : Nat) (f_0_3 f_0_4 : Int) (f_0_5p : Option Addr) (f_0_5l f_0_5c : Nat) (c_1_0 c_1_1 : Int) (c_1_2 c_1_3 : Int) (w : World) : z3k_sd ⟨f_0_0p, f_0_0l, f_0_0c⟩ ⟨f_0_1p, f_0_1l, f_0_1c⟩ ⟨f_0_2p, f_0_2l, f_0_2c⟩ f_0_3 f_0_4 ⟨f_0_5p, f_0_5l, f_0_5c⟩ c_1_0 c_1_1 c_1_2 c_1_3 (Pw.kI Kv) w = W Tryz.prog z3k_E 15 (z3k_A Kv) z3k_C [] (retQ Tryz.prog Tryz.f97.results Kv) [] (startS [(Value.agg #[(Value.slice f_0_0p f_0_0l f_0_0c), (Value.slice f_0_1p f_0_1l f_0_1c), (Value.slice f_0_2p f_0_2l f_0_2c), (Value.int .i64 f_0_3), (Value.int .i64 f_0_4), (Value.slice f_0_5p f_0_5l f_0_5c)]), (Value.agg #[(Value.int .i64 c_1_0), (Value.int .i64 c_1_1), (Value.int .i64 c_1_2), (Value.int .i64 c_1_3)])]) w := by kernel_rfl
theorem z3k_n (Kv : VW) : obAt (z3k_O Kv) 0 = none := by kernel_rfl
theorem z3k_h (Kv : VW) : ∀ k, holdsAt Tryz.prog z3k_E 15 (z3k_O Kv) k := fun _ => holdsAt_ge (z3k_n Kv) (Nat.zero_le _)
theorem z3k_ok : Sound Tryz.prog 97 z3k_S := ⟨Tryz.call97, fun vs w Kv h => by
  unfold z3k_S at h
  split at h
  . have h := h.out
    rw [z3k_e] at h
    exact calls_sound (Γ := z3k_E) progMixed trivial Tryz.func97 (code := z3k_C) (by kernel_rfl) (z3k_A Kv) Kv (holds_all (z3k_h Kv)) (Nat.le_of_ble_eq_true (by kernel_rfl)) h
  . exact h.elim⟩
/-! Cp_duals -/
def z2d_k1d (f_1 : Addr) (out_3 : Sl) (d_7 : Addr) (ok_8 : Bool) (t_13 : Sl) (t_14 t_15 : Int) (N0 : Addr -> Sl -> Sl -> Int -> Int -> World -> Prop) (_K : Sl -> World -> Prop) (w : World) : Prop :=
  cnd ok_8
    (∃ x54 : Int, w.cell? d_7 = some (Value.int .i64 x54) /\ cnd (decide (x54 > (0 : Int)))
    (∃ x55 : Int, w.cell? d_7 = some (Value.int .i64 x55) /\ ∃ x56 : Int, w.cell? (d_7.add 1) = some (Value.int .i64 x56) /\ let w57 := w.alloc (Obj.cells #[(Value.int .i64 x55), (Value.int .i64 x56)] 44)
  apS 2 16 [(Value.int .i64 0), (Value.int .i64 0)] 44 out_3 (Sl.mk (some (Addr.mk w.heap.size 0 none)) 1 1) w57 fun s58 w59 => inR .i64 (t_15 + (1 : Int)) /\ N0 f_1 s58 t_13 t_14 (t_15 + (1 : Int)) w59)
    (inR .i64 (t_15 + (1 : Int)) /\ N0 f_1 out_3 t_13 t_14 (t_15 + (1 : Int)) w))
    (inR .i64 (t_15 + (1 : Int)) /\ N0 f_1 out_3 t_13 t_14 (t_15 + (1 : Int)) w)
structure z2d_k1 (f_1 : Addr) (out_3 : Sl) (d_7 : Addr) (ok_8 : Bool) (t_13 : Sl) (t_14 t_15 : Int) (N0 : Addr -> Sl -> Sl -> Int -> Int -> World -> Prop) (K : Pw.T4) (w : World) : Prop where
  out : z2d_k1d f_1 out_3 d_7 ok_8 t_13 t_14 t_15 N0 K w
def z2d_b0 (f_1 : Addr) (out_3 t_13 : Sl) (t_14 t_15 : Int) (N0 : Addr -> Sl -> Sl -> Int -> Int -> World -> Prop) (K : Pw.T4) (w : World) : Prop :=
  cnd (decide (t_15 < t_14))
    (nz t_13.p fun a6 => (0 <= t_15 /\ t_15 < (t_13.l : Nat)) /\ ∃ x7 : Int, w.cell? (a6.add (t_15.toNat * 4)) = some (Value.int .i64 x7) /\ ∃ x8 : Int, w.cell? ((a6.add (t_15.toNat * 4)).add 1) = some (Value.int .i64 x8) /\ ∃ x9 : Int, w.cell? ((a6.add (t_15.toNat * 4)).add 2) = some (Value.int .i64 x9) /\ ∃ x10 : Int, w.cell? ((a6.add (t_15.toNat * 4)).add 3) = some (Value.int .i64 x10) /\ let w11 := w.alloc (Obj.cells #[(Value.int .i64 0), (Value.int .i64 0), (Value.int .i64 0), (Value.int .i64 0)] 65)
  stN w11 (Addr.mk w.heap.size 0 none) [(Value.int .i64 x7), (Value.int .i64 x8), (Value.int .i64 x9), (Value.int .i64 x10)] fun w12 => ∃ x13 : Sl, w12.cell? f_1 = some (Value.slice x13.p x13.l x13.c) /\ ∃ x14 : Int, w12.cell? (Addr.mk w.heap.size 0 none) = some (Value.int .i64 x14) /\ z0s_sh x13 x14 (fun r16 w15 => ∃ x17 : Sl, w15.cell? (f_1.add 5) = some (Value.slice x17.p x17.l x17.c) /\ cnd (decide (r16 >= (x17.l : Int)))
    (∃ x18 : Int, w15.cell? (Addr.mk w.heap.size 2 none) = some (Value.int .i64 x18) /\ cnd (decide (x18 > (0 : Int)))
    (let w19 := w15.drew
  ∃ S20 : World -> Prop, S20 w19 /\ ∃ x21 : Sl, (∀ w' : World, S20 w' -> w'.cell? f_1 = some (Value.slice x21.p x21.l x21.c)) /\ ∃ x22 : Sl, (∀ w' : World, S20 w' -> w'.cell? (f_1.add 1) = some (Value.slice x22.p x22.l x22.c)) /\ ∃ x23 : Sl, (∀ w' : World, S20 w' -> w'.cell? (f_1.add 2) = some (Value.slice x23.p x23.l x23.c)) /\ ∃ x24 : Int, (∀ w' : World, S20 w' -> w'.cell? (f_1.add 3) = some (Value.int .i64 x24)) /\ ∃ x25 : Int, (∀ w' : World, S20 w' -> w'.cell? (f_1.add 4) = some (Value.int .i64 x25)) /\ ∃ x26 : Sl, (∀ w' : World, S20 w' -> w'.cell? (f_1.add 5) = some (Value.slice x26.p x26.l x26.c)) /\ ∃ x27 : Int, (∀ w' : World, S20 w' -> w'.cell? (Addr.mk w.heap.size 0 none) = some (Value.int .i64 x27)) /\ ∃ x28 : Int, (∀ w' : World, S20 w' -> w'.cell? (Addr.mk w.heap.size 1 none) = some (Value.int .i64 x28)) /\ ∃ x29 : Int, (∀ w' : World, S20 w' -> w'.cell? (Addr.mk w.heap.size 2 none) = some (Value.int .i64 x29)) /\ ∃ x30 : Int, (∀ w' : World, S20 w' -> w'.cell? (Addr.mk w.heap.size 3 none) = some (Value.int .i64 x30)) /\ ∃ x31 : Int, (∀ w' : World, S20 w' -> w'.cell? (Addr.mk w.heap.size 2 none) = some (Value.int .i64 x31)) /\ (z3k_sh x21 x22 x23 x24 x25 x26 x27 x28 x29 x30 (fun r33 w32 => S20 w32 /\ (z1i_sh r33 x31 (fun r35_0 r35_1 r36 w34 => S20 w34 /\ let w37 := w34.alloc (Obj.cells #[(Value.int .i64 0), (Value.int .i64 0)] 44)
  S20 w37 /\ wrOk w37 (Addr.mk w34.heap.size 0 none) /\ 
  (let w38 := w37.setCell (Addr.mk w34.heap.size 0 none) (Value.int .i64 r35_0)
  wrOk w38 (Addr.mk w34.heap.size 1 none) /\ 
  (let w39 := w38.setCell (Addr.mk w34.heap.size 1 none) (Value.int .i64 r35_1)
  z2d_k1 f_1 out_3 (Addr.mk w34.heap.size 0 none) r36 t_13 t_14 t_15 N0 K w39))) w32)
    /\ (let w40 := w32.alloc (Obj.cells #[(Value.int .i64 0), (Value.int .i64 0)] 44)
  S20 w40 /\ z1i_sh r33 x31 (fun r42_0 r42_1 r43 w41 => S20 w41 /\ wrOk w41 (Addr.mk w32.heap.size 0 none) /\ 
  (let w44 := w41.setCell (Addr.mk w32.heap.size 0 none) (Value.int .i64 r42_0)
  wrOk w44 (Addr.mk w32.heap.size 1 none) /\ 
  (let w45 := w44.setCell (Addr.mk w32.heap.size 1 none) (Value.int .i64 r42_1)
  z2d_k1 f_1 out_3 (Addr.mk w32.heap.size 0 none) r43 t_13 t_14 t_15 N0 K w45))) w40)) w19)
    /\ (let w46 := w19.alloc (Obj.cells #[(Value.int .i64 0), (Value.int .i64 0)] 44)
  S20 w46 /\ z3k_sh x21 x22 x23 x24 x25 x26 x27 x28 x29 x30 (fun r48 w47 => S20 w47 /\ z1i_sh r48 x31 (fun r50_0 r50_1 r51 w49 => S20 w49 /\ wrOk w49 (Addr.mk w19.heap.size 0 none) /\ 
  (let w52 := w49.setCell (Addr.mk w19.heap.size 0 none) (Value.int .i64 r50_0)
  wrOk w52 (Addr.mk w19.heap.size 1 none) /\ 
  (let w53 := w52.setCell (Addr.mk w19.heap.size 1 none) (Value.int .i64 r50_1)
  z2d_k1 f_1 out_3 (Addr.mk w19.heap.size 0 none) r51 t_13 t_14 t_15 N0 K w53))) w47) w46))
    (inR .i64 (t_15 + (1 : Int)) /\ N0 f_1 out_3 t_13 t_14 (t_15 + (1 : Int)) w15))
    (inR .i64 (t_15 + (1 : Int)) /\ N0 f_1 out_3 t_13 t_14 (t_15 + (1 : Int)) w15)) w12)
    (K out_3 w)
def z2d_l0d (f_1 : Addr) (out_3 t_13 : Sl) (t_14 t_15 : Int) (K : Pw.T4) (w : World) : Prop :=
  ∃ (I : Sl -> Int -> World -> Prop) (μ : Sl -> Int -> World -> Nat), I out_3 t_15 w /\ ∀ (out_31 : Sl) (t_151 : Int) (w1 : World), I out_31 t_151 w1 ->
    z2d_b0 f_1 out_31 t_13 t_14 t_151 (fun f_1' out_3' t_13' t_14' t_15' w' => ((f_1' = f_1 /\ t_13' = t_13 /\ t_14' = t_14 /\ True) /\ I out_3' t_15' w') /\ μ out_3' t_15' w' < μ out_31 t_151 w1) K w1
structure z2d_l0 (f_1 : Addr) (out_3 t_13 : Sl) (t_14 t_15 : Int) (K : Pw.T4) (w : World) : Prop where
  out : z2d_l0d f_1 out_3 t_13 t_14 t_15 K w
def z2d_sd (f_0_0 f_0_1 f_0_2 : Sl) (f_0_3 f_0_4 : Int) (f_0_5 : Sl) (K : Pw.T4) (w : World) : Prop :=
  let w1 := w.alloc (Obj.cells #[(Value.slice f_0_0.p f_0_0.l f_0_0.c), (Value.slice f_0_1.p f_0_1.l f_0_1.c), (Value.slice f_0_2.p f_0_2.l f_0_2.c), (Value.int .i64 f_0_3), (Value.int .i64 f_0_4), (Value.slice f_0_5.p f_0_5.l f_0_5.c)] 75)
  z2u_sh (0 : Int) (fun r3_0 r3_1 w2 => let w4 := w2.alloc (Obj.cells #[(Value.int .i64 r3_0), (Value.int .i64 r3_1)] 44)
  ∃ x5 : Sl, w4.cell? (Addr.mk w.heap.size 1 none) = some (Value.slice x5.p x5.l x5.c) /\ z2d_l0 (Addr.mk w.heap.size 0 none) (Sl.mk (some (Addr.mk w2.heap.size 0 none)) 1 1) x5 (x5.l : Int) (0 : Int) K w4) w1
structure z2d_sh (f_0_0 f_0_1 f_0_2 : Sl) (f_0_3 f_0_4 : Int) (f_0_5 : Sl) (K : Pw.T4) (w : World) : Prop where
  out : z2d_sd f_0_0 f_0_1 f_0_2 f_0_3 f_0_4 f_0_5 K w
def z2d_P0 (Kv : VW) (ρ : Rho) (vs : List Value) (w : World) : Prop :=
  match ρ, vs with
  | _, [.pointer (some f_1), .slice out_3p out_3l out_3c, .slice t_13p t_13l t_13c, .int .i64 t_14, .int .i64 t_15] => z2d_l0 f_1 ⟨out_3p, out_3l, out_3c⟩ ⟨t_13p, t_13l, t_13c⟩ t_14 t_15 (Pw.kS Kv) w
  | _, _ => False
def z2d_P1 (Kv : VW) (ρ : Rho) (vs : List Value) (w : World) : Prop :=
  match ρ, vs with
  | N0 :: _, [.pointer (some f_1), .slice out_3p out_3l out_3c, .pointer (some d_7), .bool ok_8, .slice t_13p t_13l t_13c, .int .i64 t_14, .int .i64 t_15] => z2d_k1 f_1 ⟨out_3p, out_3l, out_3c⟩ d_7 ok_8 ⟨t_13p, t_13l, t_13c⟩ t_14 t_15 (fun f_1' out_3' t_13' t_14' t_15' w' => N0 [(Value.pointer (some f_1')), (Value.slice out_3'.p out_3'.l out_3'.c), (Value.slice t_13'.p t_13'.l t_13'.c), (Value.int .i64 t_14'), (Value.int .i64 t_15')] w') (Pw.kS Kv) w
  | _, _ => False
noncomputable def z2d_S : Pw.Spec := fun vs w Kv =>
  match vs with
  | [.agg ⟨[.slice f_0_0p f_0_0l f_0_0c, .slice f_0_1p f_0_1l f_0_1c, .slice f_0_2p f_0_2l f_0_2c, .int .i64 f_0_3, .int .i64 f_0_4, .slice f_0_5p f_0_5l f_0_5c]⟩] => z2d_sh ⟨f_0_0p, f_0_0l, f_0_0c⟩ ⟨f_0_1p, f_0_1l, f_0_1c⟩ ⟨f_0_2p, f_0_2l, f_0_2c⟩ f_0_3 f_0_4 ⟨f_0_5p, f_0_5l, f_0_5c⟩ (Pw.kS Kv) w
  | _ => False
noncomputable def z2d_E : Pw.Env := [(56, z2u_S), (72, z0s_S), (96, z1i_S), (97, z3k_S)]
noncomputable def z2d_C : Code := (Tryz.f82.body).getD .skip
noncomputable def z2d_A (Kv : VW) : Pw.A :=
  (A.seq (A.reg (Pw.rn 2 RA.done))
   (A.seq (A.reg (Pw.rn 3 RA.done))
   (A.seq (A.seq (A.reg (Pw.rn 5 RA.done))
   (A.blk (A.loop [1, 3, 13, 14, 15] (z2d_P0 Kv) (A.seq (A.reg (RA.run RA.done))
   (A.seq (A.cond A.leaf
   A.leaf)
   (A.seq (A.blk (A.seq (A.reg (Pw.rn 4 RA.done))
   (A.seq (A.reg (Pw.rn 7 RA.done))
   (A.seq (A.reg (Pw.rn 6 (RA.spl 30 (Pw.rn 4 RA.done) (Pw.sk 3 (RA.run RA.done)))))
   (A.cond (A.seq (A.drw (DA.pur 0 (DA.pur 1 (DA.pur 3 (DA.pur 4 (DA.two 2 (DA.two 5 (DA.pur 6 (DA.pur 7 (DA.pur 8 (DA.eff 9 (DA.eff 10 (DA.pur 11 DA.done)))))) 9 (DA.eff 5 (DA.pur 6 (DA.pur 7 (DA.pur 8 (DA.eff 10 (DA.pur 11 DA.done))))))) 9 (DA.eff 2 (DA.eff 5 (DA.pur 6 (DA.pur 7 (DA.pur 8 (DA.eff 10 (DA.pur 11 DA.done)))))))))))))
   (A.cut [1, 3, 7, 8, 13, 14, 15] (z2d_P1 Kv) (A.seq (A.reg (Pw.rn 2 (RA.spl 45 (Pw.rn 4 RA.done) (Pw.sk 3 (RA.run RA.done)))))
   (A.cond (A.reg (Pw.rn 5 RA.done))
   A.leaf))))
   A.leaf)))))
   (A.reg (Pw.rn 2 RA.done))))))))
   (A.seq (A.reg (Pw.rn 2 RA.done))
   A.leaf))))
noncomputable def z2d_O (Kv : VW) : List Ob := (obs Tryz.prog z2d_E 56 (z2d_A Kv) z2d_C (fun _ => retQ Tryz.prog Tryz.f82.results Kv))
theorem z2d_e (Kv : VW) (f_0_0p : Option Addr) (f_0_0l f_0_0c : Nat) (f_0_1p : Option Addr) (f_0_1l f_0_1c : Nat) (f_0_2p : Option Addr) (f_0_2l f_0_2c : Nat) (f_0_3 f_0_4 : Int) (f_0_5p : Option Addr) (f_0_5l f_0_5c : Nat) (w : World) : z2d_sd ⟨f_0_0p, f_0_0l, f_0_0c⟩ ⟨f_0_1p, f_0_1l, f_0_1c⟩ ⟨f_0_2p, f_0_2l, f_0_2c⟩ f_0_3 f_0_4 ⟨f_0_5p, f_0_5l, f_0_5c⟩ (Pw.kS Kv) w = W Tryz.prog z2d_E 56 (z2d_A Kv) z2d_C [] (retQ Tryz.prog Tryz.f82.results Kv) [] (startS [(Value.agg #[(Value.slice f_0_0p f_0_0l f_0_0c), (Value.slice f_0_1p f_0_1l f_0_1c), (Value.slice f_0_2p f_0_2l f_0_2c), (Value.int .i64 f_0_3), (Value.int .i64 f_0_4), (Value.slice f_0_5p f_0_5l f_0_5c)])]) w := by kernel_rfl
theorem z2d_e0 (Kv : VW) (N0 : List Value -> World -> Prop) (ρ : Rho) (f_1 : Addr) (out_3p : Option Addr) (out_3l out_3c : Nat) (t_13p : Option Addr) (t_13l t_13c : Nat) (t_14 t_15 : Int) (w : World) : z2d_b0 f_1 ⟨out_3p, out_3l, out_3c⟩ ⟨t_13p, t_13l, t_13c⟩ t_14 t_15 (fun f_1' out_3' t_13' t_14' t_15' w' => N0 [(Value.pointer (some f_1')), (Value.slice out_3'.p out_3'.l out_3'.c), (Value.slice t_13'.p t_13'.l t_13'.c), (Value.int .i64 t_14'), (Value.int .i64 t_15')] w') (Pw.kS Kv) w = goalAt Tryz.prog z2d_E 56 (z2d_O Kv) 0 (N0 :: ρ) [(Value.pointer (some f_1)), (Value.slice out_3p out_3l out_3c), (Value.slice t_13p t_13l t_13c), (Value.int .i64 t_14), (Value.int .i64 t_15)] w := by kernel_rfl
theorem z2d_q0 (Kv : VW) (ρ : Rho) (vs : List Value) (w : World) : labAt (z2d_O Kv) 0 ρ vs w = z2d_P0 Kv ρ vs w := by kernel_rfl
def z2d_I0 (f_10 : Addr) (t_130 : Sl) (t_140 : Int) (I : Sl -> Int -> World -> Prop) (vs : List Value) (w : World) : Prop :=
  match vs with
  | [.pointer (some f_1), .slice out_3p out_3l out_3c, .slice t_13p t_13l t_13c, .int .i64 t_14, .int .i64 t_15] => (f_1 = f_10 /\ ⟨t_13p, t_13l, t_13c⟩ = t_130 /\ t_14 = t_140 /\ True) /\ I ⟨out_3p, out_3l, out_3c⟩ t_15 w
  | _ => False
def z2d_M0 (μ : Sl -> Int -> World -> Nat) (vs : List Value) (w : World) : Nat :=
  match vs with
  | [.pointer (some _f_1), .slice out_3p out_3l out_3c, .slice _t_13p _t_13l _t_13c, .int .i64 _t_14, .int .i64 t_15] => μ ⟨out_3p, out_3l, out_3c⟩ t_15 w
  | _ => 0
theorem z2d_h0 (Kv : VW) : holdsAt Tryz.prog z2d_E 56 (z2d_O Kv) 0 := holdsAt_loop (by kernel_rfl) (fun ρ vs w h => by
  rw [z2d_q0] at h
  unfold z2d_P0 at h
  split at h
  . rename_i ρt f_1 out_3p out_3l out_3c t_13p t_13l t_13c t_14 t_15
    obtain ⟨I, μ, h0, hr⟩ := h.out
    refine ⟨z2d_I0 f_1 ⟨t_13p, t_13l, t_13c⟩ t_14 I, z2d_M0 μ, ⟨⟨rfl, rfl, rfl, trivial⟩, h0⟩, fun vs w hI => ?_⟩
    unfold z2d_I0 at hI
    split at hI
    . obtain ⟨⟨h0, h1, h2, _⟩, hI⟩ := hI
      cases h0; cases h1; cases h2
      rw [← z2d_e0]
      exact hr _ _ _ hI
    . exact hI.elim
  . exact h.elim)
theorem z2d_e1 (Kv : VW) (N0 : List Value -> World -> Prop) (ρ : Rho) (f_1 : Addr) (out_3p : Option Addr) (out_3l out_3c : Nat) (d_7 : Addr) (ok_8 : Bool) (t_13p : Option Addr) (t_13l t_13c : Nat) (t_14 t_15 : Int) (w : World) : z2d_k1d f_1 ⟨out_3p, out_3l, out_3c⟩ d_7 ok_8 ⟨t_13p, t_13l, t_13c⟩ t_14 t_15 (fun f_1' out_3' t_13' t_14' t_15' w' => N0 [(Value.pointer (some f_1')), (Value.slice out_3'.p out_3'.l out_3'.c), (Value.slice t_13'.p t_13'.l t_13'.c), (Value.int .i64 t_14'), (Value.int .i64 t_15')] w') (Pw.kS Kv) w = goalAt Tryz.prog z2d_E 56 (z2d_O Kv) 1 (N0 :: ρ) [(Value.pointer (some f_1)), (Value.slice out_3p out_3l out_3c), (Value.pointer (some d_7)), (Value.bool ok_8), (Value.slice t_13p t_13l t_13c), (Value.int .i64 t_14), (Value.int .i64 t_15)] w := by kernel_rfl
theorem z2d_q1 (Kv : VW) (ρ : Rho) (vs : List Value) (w : World) : labAt (z2d_O Kv) 1 ρ vs w = z2d_P1 Kv ρ vs w := by kernel_rfl
theorem z2d_h1 (Kv : VW) : holdsAt Tryz.prog z2d_E 56 (z2d_O Kv) 1 := holdsAt_cut (.inl (by kernel_rfl)) (fun ρ vs w h => by
  rw [z2d_q1] at h
  unfold z2d_P1 at h
  split at h
  . rw [← z2d_e1]; exact h.out
  . exact h.elim)
theorem z2d_n (Kv : VW) : obAt (z2d_O Kv) 2 = none := by kernel_rfl
theorem z2d_h (Kv : VW) : ∀ k, holdsAt Tryz.prog z2d_E 56 (z2d_O Kv) k := fun k => match k with
  | 0 => z2d_h0 Kv
  | 1 => z2d_h1 Kv
  | _k + 2 => holdsAt_ge (z2d_n Kv) (Nat.le_add_left _ _)
theorem z2d_ok : Sound Tryz.prog 82 z2d_S := ⟨Tryz.call82, fun vs w Kv h => by
  unfold z2d_S at h
  split at h
  . have h := h.out
    rw [z2d_e] at h
    exact calls_sound (Γ := z2d_E) progMixed ⟨.inl z2u_ok, .inl z0s_ok, .inl z1i_ok, .inl z3k_ok, trivial⟩ Tryz.func82 (code := z2d_C) (by kernel_rfl) (z2d_A Kv) Kv (holds_all (z2d_h Kv)) (Nat.le_of_ble_eq_true (by kernel_rfl)) h
  . exact h.elim⟩
/-! z2p_1 -/
def z1l_k0d (t_7 y_10 : Addr) (K : Pw.T2) (w : World) : Prop :=
  ∃ x29 : Int, w.cell? y_10 = some (Value.int .i64 x29) /\ ∃ x30 : Int, w.cell? (y_10.add 1) = some (Value.int .i64 x30) /\ wrOk w t_7 /\ 
  (let w31 := w.setCell t_7 (Value.int .i64 x29)
  wrOk w31 (t_7.add 1) /\ 
  (let w32 := w31.setCell (t_7.add 1) (Value.int .i64 x30)
  ∃ x33 : Int, w32.cell? t_7 = some (Value.int .i64 x33) /\ ∃ x34 : Int, w32.cell? (t_7.add 1) = some (Value.int .i64 x34) /\ K x33 x34 w32))
structure z1l_k0 (t_7 y_10 : Addr) (K : Pw.T2) (w : World) : Prop where
  out : z1l_k0d t_7 y_10 K w
def z1l_sd (sum_0_0 sum_0_1 : Int) (a_1_0 a_1_1 : Int) (b_2_0 b_2_1 : Int) (t_3 : Addr) (K : Pw.T2) (w : World) : Prop :=
  let w1 := w.alloc (Obj.cells #[(Value.int .i64 sum_0_0), (Value.int .i64 sum_0_1)] 44)
  let w2 := w1.alloc (Obj.cells #[(Value.int .i64 a_1_0), (Value.int .i64 a_1_1)] 44)
  let w3 := w2.alloc (Obj.cells #[(Value.int .i64 b_2_0), (Value.int .i64 b_2_1)] 44)
  let w4 := w3.alloc (Obj.cells #[(Value.int .i64 0), (Value.int .i64 0)] 44)
  ∃ x5 : Int, w4.cell? (Addr.mk w1.heap.size 0 none) = some (Value.int .i64 x5) /\ ∃ x6 : Int, w4.cell? (Addr.mk w1.heap.size 1 none) = some (Value.int .i64 x6) /\ ∃ x7 : Int, w4.cell? (Addr.mk w2.heap.size 0 none) = some (Value.int .i64 x7) /\ ∃ x8 : Int, w4.cell? (Addr.mk w2.heap.size 1 none) = some (Value.int .i64 x8) /\ z1x_sh x5 x6 x7 x8 (fun r10_0 r10_1 r11 w9 => let w12 := w9.alloc (Obj.cells #[(Value.int .i64 0), (Value.int .i64 0)] 44)
  wrOk w12 (Addr.mk w9.heap.size 0 none) /\ 
  (let w13 := w12.setCell (Addr.mk w9.heap.size 0 none) (Value.int .i64 r10_0)
  wrOk w13 (Addr.mk w9.heap.size 1 none) /\ 
  (let w14 := w13.setCell (Addr.mk w9.heap.size 1 none) (Value.int .i64 r10_1)
  ∃ x15 : Int, w14.cell? (Addr.mk w.heap.size 0 none) = some (Value.int .i64 x15) /\ ∃ x16 : Int, w14.cell? (Addr.mk w.heap.size 1 none) = some (Value.int .i64 x16) /\ ∃ x17 : Int, w14.cell? (Addr.mk w9.heap.size 0 none) = some (Value.int .i64 x17) /\ ∃ x18 : Int, w14.cell? (Addr.mk w9.heap.size 1 none) = some (Value.int .i64 x18) /\ z23_sh x15 x16 x17 x18 (fun r20_0 r20_1 r21 w19 => let w22 := w19.alloc (Obj.cells #[(Value.int .i64 0), (Value.int .i64 0)] 44)
  wrOk w22 (Addr.mk w19.heap.size 0 none) /\ 
  (let w23 := w22.setCell (Addr.mk w19.heap.size 0 none) (Value.int .i64 r20_0)
  wrOk w23 (Addr.mk w19.heap.size 1 none) /\ 
  (let w24 := w23.setCell (Addr.mk w19.heap.size 1 none) (Value.int .i64 r20_1)
  ∃ x25 : Bool, w24.cell? t_3 = some (Value.bool x25) /\ cnd x25
    (cnd r11
    (wrOk w24 t_3 /\ 
  (let w26 := w24.setCell t_3 (Value.bool r21)
  z1l_k0 (Addr.mk w3.heap.size 0 none) (Addr.mk w19.heap.size 0 none) K w26))
    (wrOk w24 t_3 /\ 
  (let w27 := w24.setCell t_3 (Value.bool false)
  z1l_k0 (Addr.mk w3.heap.size 0 none) (Addr.mk w19.heap.size 0 none) K w27)))
    (wrOk w24 t_3 /\ 
  (let w28 := w24.setCell t_3 (Value.bool false)
  z1l_k0 (Addr.mk w3.heap.size 0 none) (Addr.mk w19.heap.size 0 none) K w28))))) w14))) w4
structure z1l_sh (sum_0_0 sum_0_1 : Int) (a_1_0 a_1_1 : Int) (b_2_0 b_2_1 : Int) (t_3 : Addr) (K : Pw.T2) (w : World) : Prop where
  out : z1l_sd sum_0_0 sum_0_1 a_1_0 a_1_1 b_2_0 b_2_1 t_3 K w
def z1l_P0 (Kv : VW) (ρ : Rho) (vs : List Value) (w : World) : Prop :=
  match ρ, vs with
  | _, [.pointer (some t_7), .pointer (some y_10)] => z1l_k0 t_7 y_10 (fun r0_0 r0_1 w' => Kv (Value.agg #[(Value.int .i64 r0_0), (Value.int .i64 r0_1)]) w') w
  | _, _ => False
noncomputable def z1l_S : Pw.Spec := fun vs w Kv =>
  match vs with
  | [.agg ⟨[.int .i64 sum_0_0, .int .i64 sum_0_1]⟩, .agg ⟨[.int .i64 a_1_0, .int .i64 a_1_1]⟩, .agg ⟨[.int .i64 b_2_0, .int .i64 b_2_1]⟩, .pointer (some t_3)] => z1l_sh sum_0_0 sum_0_1 a_1_0 a_1_1 b_2_0 b_2_1 t_3 (fun r0_0 r0_1 w' => Kv (Value.agg #[(Value.int .i64 r0_0), (Value.int .i64 r0_1)]) w') w
  | _ => False
noncomputable def z1l_E : Pw.Env := [(99, z1x_S), (100, z23_S)]
noncomputable def z1l_C : Code := (Tryz.f98.body).getD .skip
noncomputable def z1l_A (Kv : VW) : Pw.A :=
  (A.seq (A.reg (Pw.rn 4 RA.done))
   (A.seq (A.reg (Pw.rn 9 RA.done))
   (A.seq (A.reg (Pw.rn 9 RA.done))
   (A.seq (A.reg (Pw.rn 2 (RA.spl 25 (Pw.rn 3 (RA.spl 28 (Pw.rn 3 RA.done) (RA.skp (Pw.rn 2 RA.done)))) (RA.skp (Pw.rn 2 (RA.skp (Pw.rn 2 RA.done)))))))
   (A.cut [7, 10] (z1l_P0 Kv) (A.seq (A.reg (Pw.rn 2 RA.done))
   A.leaf))))))
noncomputable def z1l_O (Kv : VW) : List Ob := (obs Tryz.prog z1l_E 32 (z1l_A Kv) z1l_C (fun _ => retQ Tryz.prog Tryz.f98.results Kv))
theorem z1l_e (Kv : VW) (sum_0_0 sum_0_1 : Int) (a_1_0 a_1_1 : Int) (b_2_0 b_2_1 : Int) (t_3 : Addr) (w : World) : z1l_sd sum_0_0 sum_0_1 a_1_0 a_1_1 b_2_0 b_2_1 t_3 (fun r0_0 r0_1 w' => Kv (Value.agg #[(Value.int .i64 r0_0), (Value.int .i64 r0_1)]) w') w = W Tryz.prog z1l_E 32 (z1l_A Kv) z1l_C [] (retQ Tryz.prog Tryz.f98.results Kv) [] (startS [(Value.agg #[(Value.int .i64 sum_0_0), (Value.int .i64 sum_0_1)]), (Value.agg #[(Value.int .i64 a_1_0), (Value.int .i64 a_1_1)]), (Value.agg #[(Value.int .i64 b_2_0), (Value.int .i64 b_2_1)]), (Value.pointer (some t_3))]) w := by kernel_rfl
theorem z1l_e0 (Kv : VW) (ρ : Rho) (t_7 y_10 : Addr) (w : World) : z1l_k0d t_7 y_10 (fun r0_0 r0_1 w' => Kv (Value.agg #[(Value.int .i64 r0_0), (Value.int .i64 r0_1)]) w') w = goalAt Tryz.prog z1l_E 32 (z1l_O Kv) 0 (ρ) [(Value.pointer (some t_7)), (Value.pointer (some y_10))] w := by kernel_rfl
theorem z1l_q0 (Kv : VW) (ρ : Rho) (vs : List Value) (w : World) : labAt (z1l_O Kv) 0 ρ vs w = z1l_P0 Kv ρ vs w := by kernel_rfl
theorem z1l_h0 (Kv : VW) : holdsAt Tryz.prog z1l_E 32 (z1l_O Kv) 0 := holdsAt_cut (.inl (by kernel_rfl)) (fun ρ vs w h => by
  rw [z1l_q0] at h
  unfold z1l_P0 at h
  split at h
  . rw [← z1l_e0]; exact h.out
  . exact h.elim)
theorem z1l_n (Kv : VW) : obAt (z1l_O Kv) 1 = none := by kernel_rfl
theorem z1l_h (Kv : VW) : ∀ k, holdsAt Tryz.prog z1l_E 32 (z1l_O Kv) k := fun k => match k with
  | 0 => z1l_h0 Kv
  | _k + 1 => holdsAt_ge (z1l_n Kv) (Nat.le_add_left _ _)
theorem z1l_ok : Sound Tryz.prog 98 z1l_S := ⟨Tryz.call98, fun vs w Kv h => by
  unfold z1l_S at h
  split at h
  . have h := h.out
    rw [z1l_e] at h
    exact calls_sound (Γ := z1l_E) progMixed ⟨.inl z1x_ok, .inl z23_ok, trivial⟩ Tryz.func98 (code := z1l_C) (by kernel_rfl) (z1l_A Kv) Kv (holds_all (z1l_h Kv)) (Nat.le_of_ble_eq_true (by kernel_rfl)) h
  . exact h.elim⟩
/-! Cp_bound -/
def z2p_k5d (f_2 dual_3 : Addr) (fine_6 add_7_c0 : Addr) (one_8 sum_9 : Addr) (i_10 lot_11 : Int) (best_12 x_16 : Addr) (t_30 : Sl) (t_31 t_32 : Int) (t_40 : Sl) (t_41 t_42 : Int) (N2 : Addr -> Addr -> Addr -> Addr -> Addr -> Addr -> Int -> Int -> Addr -> Sl -> Int -> Int -> Sl -> Int -> Int -> World -> Prop) (_N1 : Addr -> Addr -> Addr -> Addr -> Addr -> Addr -> Sl -> Int -> Int -> World -> Prop) (_K : Int -> Bool -> World -> Prop) (w : World) : Prop :=
  ∃ x130 : Int, w.cell? x_16 = some (Value.int .i64 x130) /\ ∃ x131 : Int, w.cell? (x_16.add 1) = some (Value.int .i64 x131) /\ wrOk w best_12 /\ 
  (let w132 := w.setCell best_12 (Value.int .i64 x130)
  wrOk w132 (best_12.add 1) /\ 
  (let w133 := w132.setCell (best_12.add 1) (Value.int .i64 x131)
  inR .i64 (t_42 + (1 : Int)) /\ N2 f_2 dual_3 fine_6 add_7_c0 one_8 sum_9 i_10 lot_11 best_12 t_30 t_31 t_32 t_40 t_41 (t_42 + (1 : Int)) w133))
structure z2p_k5 (f_2 dual_3 : Addr) (fine_6 add_7_c0 : Addr) (one_8 sum_9 : Addr) (i_10 lot_11 : Int) (best_12 x_16 : Addr) (t_30 : Sl) (t_31 t_32 : Int) (t_40 : Sl) (t_41 t_42 : Int) (N2 : Addr -> Addr -> Addr -> Addr -> Addr -> Addr -> Int -> Int -> Addr -> Sl -> Int -> Int -> Sl -> Int -> Int -> World -> Prop) (N1 : Addr -> Addr -> Addr -> Addr -> Addr -> Addr -> Sl -> Int -> Int -> World -> Prop) (K : Pw.T5) (w : World) : Prop where
  out : z2p_k5d f_2 dual_3 fine_6 add_7_c0 one_8 sum_9 i_10 lot_11 best_12 x_16 t_30 t_31 t_32 t_40 t_41 t_42 N2 N1 K w
def z2p_k4d (f_2 dual_3 : Addr) (fine_6 add_7_c0 : Addr) (one_8 sum_9 : Addr) (i_10 lot_11 : Int) (best_12 : Addr) (decided_15 : Bool) (x_16 : Addr) (t_30 : Sl) (t_31 t_32 : Int) (t_40 : Sl) (t_41 t_42 : Int) (N2 : Addr -> Addr -> Addr -> Addr -> Addr -> Addr -> Int -> Int -> Addr -> Sl -> Int -> Int -> Sl -> Int -> Int -> World -> Prop) (N1 : Addr -> Addr -> Addr -> Addr -> Addr -> Addr -> Sl -> Int -> Int -> World -> Prop) (K : Pw.T5) (w : World) : Prop :=
  cnd decided_15
    (z2p_k5 f_2 dual_3 fine_6 add_7_c0 one_8 sum_9 i_10 lot_11 best_12 x_16 t_30 t_31 t_32 t_40 t_41 t_42 N2 N1 K w)
    (∃ x124 : Int, w.cell? x_16 = some (Value.int .i64 x124) /\ ∃ x125 : Int, w.cell? (x_16.add 1) = some (Value.int .i64 x125) /\ ∃ x126 : Int, w.cell? best_12 = some (Value.int .i64 x126) /\ ∃ x127 : Int, w.cell? (best_12.add 1) = some (Value.int .i64 x127) /\ z21_sh x124 x125 x126 x127 (fun r129 w128 => cnd (decide (r129 > (0 : Int)))
    (z2p_k5 f_2 dual_3 fine_6 add_7_c0 one_8 sum_9 i_10 lot_11 best_12 x_16 t_30 t_31 t_32 t_40 t_41 t_42 N2 N1 K w128)
    (inR .i64 (t_42 + (1 : Int)) /\ N2 f_2 dual_3 fine_6 add_7_c0 one_8 sum_9 i_10 lot_11 best_12 t_30 t_31 t_32 t_40 t_41 (t_42 + (1 : Int)) w128)) w)
structure z2p_k4 (f_2 dual_3 : Addr) (fine_6 add_7_c0 : Addr) (one_8 sum_9 : Addr) (i_10 lot_11 : Int) (best_12 : Addr) (decided_15 : Bool) (x_16 : Addr) (t_30 : Sl) (t_31 t_32 : Int) (t_40 : Sl) (t_41 t_42 : Int) (N2 : Addr -> Addr -> Addr -> Addr -> Addr -> Addr -> Int -> Int -> Addr -> Sl -> Int -> Int -> Sl -> Int -> Int -> World -> Prop) (N1 : Addr -> Addr -> Addr -> Addr -> Addr -> Addr -> Sl -> Int -> Int -> World -> Prop) (K : Pw.T5) (w : World) : Prop where
  out : z2p_k4d f_2 dual_3 fine_6 add_7_c0 one_8 sum_9 i_10 lot_11 best_12 decided_15 x_16 t_30 t_31 t_32 t_40 t_41 t_42 N2 N1 K w
def z2p_k3d (f_2 dual_3 : Addr) (fine_6 add_7_c0 : Addr) (one_8 sum_9 : Addr) (i_10 lot_11 : Int) (best_12 c_14 : Addr) (decided_15 : Bool) (t_30 : Sl) (t_31 t_32 : Int) (t_40 : Sl) (t_41 t_42 : Int) (N2 : Addr -> Addr -> Addr -> Addr -> Addr -> Addr -> Int -> Int -> Addr -> Sl -> Int -> Int -> Sl -> Int -> Int -> World -> Prop) (N1 : Addr -> Addr -> Addr -> Addr -> Addr -> Addr -> Sl -> Int -> Int -> World -> Prop) (K : Pw.T5) (w : World) : Prop :=
  let w66 := w.drew
  ∃ S67 : World -> Prop, S67 w66 /\ ∃ x68 : Sl, (∀ w' : World, S67 w' -> w'.cell? f_2 = some (Value.slice x68.p x68.l x68.c)) /\ ∃ x69 : Sl, (∀ w' : World, S67 w' -> w'.cell? (f_2.add 1) = some (Value.slice x69.p x69.l x69.c)) /\ ∃ x70 : Sl, (∀ w' : World, S67 w' -> w'.cell? (f_2.add 2) = some (Value.slice x70.p x70.l x70.c)) /\ ∃ x71 : Int, (∀ w' : World, S67 w' -> w'.cell? (f_2.add 3) = some (Value.int .i64 x71)) /\ ∃ x72 : Int, (∀ w' : World, S67 w' -> w'.cell? (f_2.add 4) = some (Value.int .i64 x72)) /\ ∃ x73 : Sl, (∀ w' : World, S67 w' -> w'.cell? (f_2.add 5) = some (Value.slice x73.p x73.l x73.c)) /\ ∃ x74 : Int, (∀ w' : World, S67 w' -> w'.cell? c_14 = some (Value.int .i64 x74)) /\ ∃ x75 : Int, (∀ w' : World, S67 w' -> w'.cell? (c_14.add 1) = some (Value.int .i64 x75)) /\ ∃ x76 : Int, (∀ w' : World, S67 w' -> w'.cell? (c_14.add 2) = some (Value.int .i64 x76)) /\ ∃ x77 : Int, (∀ w' : World, S67 w' -> w'.cell? (c_14.add 3) = some (Value.int .i64 x77)) /\ ∃ x78 : Int, (∀ w' : World, S67 w' -> w'.cell? dual_3 = some (Value.int .i64 x78)) /\ ∃ x79 : Int, (∀ w' : World, S67 w' -> w'.cell? (dual_3.add 1) = some (Value.int .i64 x79)) /\ ∃ x80 : Int, (∀ w' : World, S67 w' -> w'.cell? (c_14.add 2) = some (Value.int .i64 x80)) /\ inR .i64 (-x80) /\ (z3k_sh x68 x69 x70 x71 x72 x73 x74 x75 x76 x77 (fun r82 w81 => S67 w81 /\ (z2u_sh r82 (fun r84_0 r84_1 w83 => S67 w83 /\ (z2u_sh (-x80) (fun r86_0 r86_1 w85 => S67 w85 /\ (z1l_sh r84_0 r84_1 x78 x79 r86_0 r86_1 add_7_c0 (fun r88_0 r88_1 w87 => S67 w87 /\ let w89 := w87.alloc (Obj.cells #[(Value.int .i64 0), (Value.int .i64 0)] 44)
  S67 w89 /\ wrOk w89 (Addr.mk w87.heap.size 0 none) /\ 
  (let w90 := w89.setCell (Addr.mk w87.heap.size 0 none) (Value.int .i64 r88_0)
  wrOk w90 (Addr.mk w87.heap.size 1 none) /\ 
  (let w91 := w90.setCell (Addr.mk w87.heap.size 1 none) (Value.int .i64 r88_1)
  z2p_k4 f_2 dual_3 fine_6 add_7_c0 one_8 sum_9 i_10 lot_11 best_12 decided_15 (Addr.mk w87.heap.size 0 none) t_30 t_31 t_32 t_40 t_41 t_42 N2 N1 K w91))) w85)
    /\ (let w92 := w85.alloc (Obj.cells #[(Value.int .i64 0), (Value.int .i64 0)] 44)
  S67 w92 /\ z1l_sh r84_0 r84_1 x78 x79 r86_0 r86_1 add_7_c0 (fun r94_0 r94_1 w93 => S67 w93 /\ wrOk w93 (Addr.mk w85.heap.size 0 none) /\ 
  (let w95 := w93.setCell (Addr.mk w85.heap.size 0 none) (Value.int .i64 r94_0)
  wrOk w95 (Addr.mk w85.heap.size 1 none) /\ 
  (let w96 := w95.setCell (Addr.mk w85.heap.size 1 none) (Value.int .i64 r94_1)
  z2p_k4 f_2 dual_3 fine_6 add_7_c0 one_8 sum_9 i_10 lot_11 best_12 decided_15 (Addr.mk w85.heap.size 0 none) t_30 t_31 t_32 t_40 t_41 t_42 N2 N1 K w96))) w92)) w83)
    /\ (let w97 := w83.alloc (Obj.cells #[(Value.int .i64 0), (Value.int .i64 0)] 44)
  S67 w97 /\ z2u_sh (-x80) (fun r99_0 r99_1 w98 => S67 w98 /\ z1l_sh r84_0 r84_1 x78 x79 r99_0 r99_1 add_7_c0 (fun r101_0 r101_1 w100 => S67 w100 /\ wrOk w100 (Addr.mk w83.heap.size 0 none) /\ 
  (let w102 := w100.setCell (Addr.mk w83.heap.size 0 none) (Value.int .i64 r101_0)
  wrOk w102 (Addr.mk w83.heap.size 1 none) /\ 
  (let w103 := w102.setCell (Addr.mk w83.heap.size 1 none) (Value.int .i64 r101_1)
  z2p_k4 f_2 dual_3 fine_6 add_7_c0 one_8 sum_9 i_10 lot_11 best_12 decided_15 (Addr.mk w83.heap.size 0 none) t_30 t_31 t_32 t_40 t_41 t_42 N2 N1 K w103))) w98) w97)) w81)
    /\ (let w104 := w81.alloc (Obj.cells #[(Value.int .i64 0), (Value.int .i64 0)] 44)
  S67 w104 /\ z2u_sh r82 (fun r106_0 r106_1 w105 => S67 w105 /\ z2u_sh (-x80) (fun r108_0 r108_1 w107 => S67 w107 /\ z1l_sh r106_0 r106_1 x78 x79 r108_0 r108_1 add_7_c0 (fun r110_0 r110_1 w109 => S67 w109 /\ wrOk w109 (Addr.mk w81.heap.size 0 none) /\ 
  (let w111 := w109.setCell (Addr.mk w81.heap.size 0 none) (Value.int .i64 r110_0)
  wrOk w111 (Addr.mk w81.heap.size 1 none) /\ 
  (let w112 := w111.setCell (Addr.mk w81.heap.size 1 none) (Value.int .i64 r110_1)
  z2p_k4 f_2 dual_3 fine_6 add_7_c0 one_8 sum_9 i_10 lot_11 best_12 decided_15 (Addr.mk w81.heap.size 0 none) t_30 t_31 t_32 t_40 t_41 t_42 N2 N1 K w112))) w107) w105) w104)) w66)
    /\ (let w113 := w66.alloc (Obj.cells #[(Value.int .i64 0), (Value.int .i64 0)] 44)
  S67 w113 /\ z3k_sh x68 x69 x70 x71 x72 x73 x74 x75 x76 x77 (fun r115 w114 => S67 w114 /\ z2u_sh r115 (fun r117_0 r117_1 w116 => S67 w116 /\ z2u_sh (-x80) (fun r119_0 r119_1 w118 => S67 w118 /\ z1l_sh r117_0 r117_1 x78 x79 r119_0 r119_1 add_7_c0 (fun r121_0 r121_1 w120 => S67 w120 /\ wrOk w120 (Addr.mk w66.heap.size 0 none) /\ 
  (let w122 := w120.setCell (Addr.mk w66.heap.size 0 none) (Value.int .i64 r121_0)
  wrOk w122 (Addr.mk w66.heap.size 1 none) /\ 
  (let w123 := w122.setCell (Addr.mk w66.heap.size 1 none) (Value.int .i64 r121_1)
  z2p_k4 f_2 dual_3 fine_6 add_7_c0 one_8 sum_9 i_10 lot_11 best_12 decided_15 (Addr.mk w66.heap.size 0 none) t_30 t_31 t_32 t_40 t_41 t_42 N2 N1 K w123))) w118) w116) w114) w113)
structure z2p_k3 (f_2 dual_3 : Addr) (fine_6 add_7_c0 : Addr) (one_8 sum_9 : Addr) (i_10 lot_11 : Int) (best_12 c_14 : Addr) (decided_15 : Bool) (t_30 : Sl) (t_31 t_32 : Int) (t_40 : Sl) (t_41 t_42 : Int) (N2 : Addr -> Addr -> Addr -> Addr -> Addr -> Addr -> Int -> Int -> Addr -> Sl -> Int -> Int -> Sl -> Int -> Int -> World -> Prop) (N1 : Addr -> Addr -> Addr -> Addr -> Addr -> Addr -> Sl -> Int -> Int -> World -> Prop) (K : Pw.T5) (w : World) : Prop where
  out : z2p_k3d f_2 dual_3 fine_6 add_7_c0 one_8 sum_9 i_10 lot_11 best_12 c_14 decided_15 t_30 t_31 t_32 t_40 t_41 t_42 N2 N1 K w
def z2p_b2 (f_2 dual_3 : Addr) (fine_6 add_7_c0 : Addr) (one_8 sum_9 : Addr) (i_10 lot_11 : Int) (best_12 : Addr) (t_30 : Sl) (t_31 t_32 : Int) (t_40 : Sl) (t_41 t_42 : Int) (N2 : Addr -> Addr -> Addr -> Addr -> Addr -> Addr -> Int -> Int -> Addr -> Sl -> Int -> Int -> Sl -> Int -> Int -> World -> Prop) (N1 : Addr -> Addr -> Addr -> Addr -> Addr -> Addr -> Sl -> Int -> Int -> World -> Prop) (K : Pw.T5) (w : World) : Prop :=
  cnd (decide (t_42 < t_41))
    (nz t_40.p fun a54 => (0 <= t_42 /\ t_42 < (t_40.l : Nat)) /\ ∃ x55 : Int, w.cell? (a54.add (t_42.toNat * 4)) = some (Value.int .i64 x55) /\ ∃ x56 : Int, w.cell? ((a54.add (t_42.toNat * 4)).add 1) = some (Value.int .i64 x56) /\ ∃ x57 : Int, w.cell? ((a54.add (t_42.toNat * 4)).add 2) = some (Value.int .i64 x57) /\ ∃ x58 : Int, w.cell? ((a54.add (t_42.toNat * 4)).add 3) = some (Value.int .i64 x58) /\ let w59 := w.alloc (Obj.cells #[(Value.int .i64 0), (Value.int .i64 0), (Value.int .i64 0), (Value.int .i64 0)] 65)
  stN w59 (Addr.mk w.heap.size 0 none) [(Value.int .i64 x55), (Value.int .i64 x56), (Value.int .i64 x57), (Value.int .i64 x58)] fun w60 => ∃ x61 : Sl, w60.cell? (f_2.add 5) = some (Value.slice x61.p x61.l x61.c) /\ ∃ x62 : Int, w60.cell? (Addr.mk w.heap.size 0 none) = some (Value.int .i64 x62) /\ cnd (x62 != lot_11)
    (inR .i64 (t_42 + (1 : Int)) /\ N2 f_2 dual_3 fine_6 add_7_c0 one_8 sum_9 i_10 lot_11 best_12 t_30 t_31 t_32 t_40 t_41 (t_42 + (1 : Int)) w60)
    (cnd (decide (i_10 < (x61.l : Int)))
    (∃ x63 : Sl, w60.cell? (f_2.add 5) = some (Value.slice x63.p x63.l x63.c) /\ nz x63.p fun a64 => (0 <= i_10 /\ i_10 < (x63.l : Nat)) /\ ∃ x65 : Int, w60.cell? (a64.add (i_10.toNat * 1)) = some (Value.int .i64 x65) /\ cnd (x65 != t_42)
    (inR .i64 (t_42 + (1 : Int)) /\ N2 f_2 dual_3 fine_6 add_7_c0 one_8 sum_9 i_10 lot_11 best_12 t_30 t_31 t_32 t_40 t_41 (t_42 + (1 : Int)) w60)
    (z2p_k3 f_2 dual_3 fine_6 add_7_c0 one_8 sum_9 i_10 lot_11 best_12 (Addr.mk w.heap.size 0 none) (decide (i_10 < (x61.l : Int))) t_30 t_31 t_32 t_40 t_41 t_42 N2 N1 K w60))
    (z2p_k3 f_2 dual_3 fine_6 add_7_c0 one_8 sum_9 i_10 lot_11 best_12 (Addr.mk w.heap.size 0 none) (decide (i_10 < (x61.l : Int))) t_30 t_31 t_32 t_40 t_41 t_42 N2 N1 K w60)))
    (∃ x134 : Int, w.cell? sum_9 = some (Value.int .i64 x134) /\ ∃ x135 : Int, w.cell? (sum_9.add 1) = some (Value.int .i64 x135) /\ ∃ x136 : Int, w.cell? one_8 = some (Value.int .i64 x136) /\ ∃ x137 : Int, w.cell? (one_8.add 1) = some (Value.int .i64 x137) /\ ∃ x138 : Int, w.cell? best_12 = some (Value.int .i64 x138) /\ ∃ x139 : Int, w.cell? (best_12.add 1) = some (Value.int .i64 x139) /\ z1l_sh x134 x135 x136 x137 x138 x139 add_7_c0 (fun r141_0 r141_1 w140 => wrOk w140 sum_9 /\ 
  (let w142 := w140.setCell sum_9 (Value.int .i64 r141_0)
  wrOk w142 (sum_9.add 1) /\ 
  (let w143 := w142.setCell (sum_9.add 1) (Value.int .i64 r141_1)
  inR .i64 (t_32 + (1 : Int)) /\ N1 f_2 dual_3 fine_6 add_7_c0 one_8 sum_9 t_30 t_31 (t_32 + (1 : Int)) w143))) w)
def z2p_l2d (f_2 dual_3 : Addr) (fine_6 add_7_c0 : Addr) (one_8 sum_9 : Addr) (i_10 lot_11 : Int) (best_12 : Addr) (t_30 : Sl) (t_31 t_32 : Int) (t_40 : Sl) (t_41 t_42 : Int) (N1 : Addr -> Addr -> Addr -> Addr -> Addr -> Addr -> Sl -> Int -> Int -> World -> Prop) (K : Pw.T5) (w : World) : Prop :=
  ∃ (I : Int -> World -> Prop) (μ : Int -> World -> Nat), I t_42 w /\ ∀ (t_421 : Int) (w1 : World), I t_421 w1 ->
    z2p_b2 f_2 dual_3 fine_6 add_7_c0 one_8 sum_9 i_10 lot_11 best_12 t_30 t_31 t_32 t_40 t_41 t_421 (fun f_2' dual_3' fine_6' add_7_c0' one_8' sum_9' i_10' lot_11' best_12' t_30' t_31' t_32' t_40' t_41' t_42' w' => ((f_2' = f_2 /\ dual_3' = dual_3 /\ fine_6' = fine_6 /\ add_7_c0' = add_7_c0 /\ one_8' = one_8 /\ sum_9' = sum_9 /\ i_10' = i_10 /\ lot_11' = lot_11 /\ best_12' = best_12 /\ t_30' = t_30 /\ t_31' = t_31 /\ t_32' = t_32 /\ t_40' = t_40 /\ t_41' = t_41 /\ True) /\ I t_42' w') /\ μ t_42' w' < μ t_421 w1) N1 K w1
structure z2p_l2 (f_2 dual_3 : Addr) (fine_6 add_7_c0 : Addr) (one_8 sum_9 : Addr) (i_10 lot_11 : Int) (best_12 : Addr) (t_30 : Sl) (t_31 t_32 : Int) (t_40 : Sl) (t_41 t_42 : Int) (N1 : Addr -> Addr -> Addr -> Addr -> Addr -> Addr -> Sl -> Int -> Int -> World -> Prop) (K : Pw.T5) (w : World) : Prop where
  out : z2p_l2d f_2 dual_3 fine_6 add_7_c0 one_8 sum_9 i_10 lot_11 best_12 t_30 t_31 t_32 t_40 t_41 t_42 N1 K w
def z2p_b1 (f_2 dual_3 : Addr) (fine_6 add_7_c0 : Addr) (one_8 sum_9 : Addr) (t_30 : Sl) (t_31 t_32 : Int) (N1 : Addr -> Addr -> Addr -> Addr -> Addr -> Addr -> Sl -> Int -> Int -> World -> Prop) (K : Pw.T5) (w : World) : Prop :=
  cnd (decide (t_32 < t_31))
    (nz t_30.p fun a46 => (0 <= t_32 /\ t_32 < (t_30.l : Nat)) /\ ∃ x47 : Int, w.cell? (a46.add (t_32.toNat * 1)) = some (Value.int .i64 x47) /\ z2u_sh (0 : Int) (fun r49_0 r49_1 w48 => let w50 := w48.alloc (Obj.cells #[(Value.int .i64 0), (Value.int .i64 0)] 44)
  wrOk w50 (Addr.mk w48.heap.size 0 none) /\ 
  (let w51 := w50.setCell (Addr.mk w48.heap.size 0 none) (Value.int .i64 r49_0)
  wrOk w51 (Addr.mk w48.heap.size 1 none) /\ 
  (let w52 := w51.setCell (Addr.mk w48.heap.size 1 none) (Value.int .i64 r49_1)
  ∃ x53 : Sl, w52.cell? (f_2.add 1) = some (Value.slice x53.p x53.l x53.c) /\ z2p_l2 f_2 dual_3 fine_6 add_7_c0 one_8 sum_9 t_32 x47 (Addr.mk w48.heap.size 0 none) t_30 t_31 t_32 x53 (x53.l : Int) (0 : Int) N1 K w52))) w)
    (∃ x144 : Int, w.cell? one_8 = some (Value.int .i64 x144) /\ ∃ x145 : Int, w.cell? (one_8.add 1) = some (Value.int .i64 x145) /\ ∃ x146 : Int, w.cell? one_8 = some (Value.int .i64 x146) /\ ∃ x147 : Int, w.cell? (one_8.add 1) = some (Value.int .i64 x147) /\ ∃ x148 : Int, w.cell? dual_3 = some (Value.int .i64 x148) /\ ∃ x149 : Int, w.cell? (dual_3.add 1) = some (Value.int .i64 x149) /\ z1l_sh x144 x145 x146 x147 x148 x149 add_7_c0 (fun r151_0 r151_1 w150 => let w152 := w150.alloc (Obj.cells #[(Value.int .i64 0), (Value.int .i64 0)] 44)
  wrOk w152 (Addr.mk w150.heap.size 0 none) /\ 
  (let w153 := w152.setCell (Addr.mk w150.heap.size 0 none) (Value.int .i64 r151_0)
  wrOk w153 (Addr.mk w150.heap.size 1 none) /\ 
  (let w154 := w153.setCell (Addr.mk w150.heap.size 1 none) (Value.int .i64 r151_1)
  let w155 := w154.drew
  ∃ S156 : World -> Prop, S156 w155 /\ ∃ x157 : Int, (∀ w' : World, S156 w' -> w'.cell? sum_9 = some (Value.int .i64 x157)) /\ ∃ x158 : Int, (∀ w' : World, S156 w' -> w'.cell? (sum_9.add 1) = some (Value.int .i64 x158)) /\ ∃ x159 : Int, (∀ w' : World, S156 w' -> w'.cell? (Addr.mk w150.heap.size 0 none) = some (Value.int .i64 x159)) /\ ∃ x160 : Int, (∀ w' : World, S156 w' -> w'.cell? (Addr.mk w150.heap.size 1 none) = some (Value.int .i64 x160)) /\ ∃ x161 : Sl, (∀ w' : World, S156 w' -> w'.cell? f_2 = some (Value.slice x161.p x161.l x161.c)) /\ ∃ x162 : Sl, (∀ w' : World, S156 w' -> w'.cell? (f_2.add 1) = some (Value.slice x162.p x162.l x162.c)) /\ ∃ x163 : Sl, (∀ w' : World, S156 w' -> w'.cell? (f_2.add 2) = some (Value.slice x163.p x163.l x163.c)) /\ ∃ x164 : Int, (∀ w' : World, S156 w' -> w'.cell? (f_2.add 3) = some (Value.int .i64 x164)) /\ ∃ x165 : Int, (∀ w' : World, S156 w' -> w'.cell? (f_2.add 4) = some (Value.int .i64 x165)) /\ ∃ x166 : Sl, (∀ w' : World, S156 w' -> w'.cell? (f_2.add 5) = some (Value.slice x166.p x166.l x166.c)) /\ z2z_sh x161 x162 x163 x164 x165 x166 (fun r168 w167 => S156 w167 /\ z2u_sh r168 (fun r170_0 r170_1 w169 => S156 w169 /\ z1l_sh x157 x158 x159 x160 r170_0 r170_1 add_7_c0 (fun r172_0 r172_1 w171 => S156 w171 /\ wrOk w171 sum_9 /\ 
  (let w173 := w171.setCell sum_9 (Value.int .i64 r172_0)
  wrOk w173 (sum_9.add 1) /\ 
  (let w174 := w173.setCell (sum_9.add 1) (Value.int .i64 r172_1)
  let w175 := w174.drew
  ∃ S176 : World -> Prop, S176 w175 /\ ∃ x177 : Int, (∀ w' : World, S176 w' -> w'.cell? sum_9 = some (Value.int .i64 x177)) /\ ∃ x178 : Int, (∀ w' : World, S176 w' -> w'.cell? (sum_9.add 1) = some (Value.int .i64 x178)) /\ ∃ x179 : Bool, (∀ w' : World, S176 w' -> w'.cell? fine_6 = some (Value.bool x179)) /\ z14_sh x177 x178 (fun r181 w180 => S176 w180 /\ K r181 x179 w180) w175))) w169) w167) w155))) w)
def z2p_l1d (f_2 dual_3 : Addr) (fine_6 add_7_c0 : Addr) (one_8 sum_9 : Addr) (t_30 : Sl) (t_31 t_32 : Int) (K : Pw.T5) (w : World) : Prop :=
  ∃ (I : Int -> World -> Prop) (μ : Int -> World -> Nat), I t_32 w /\ ∀ (t_321 : Int) (w1 : World), I t_321 w1 ->
    z2p_b1 f_2 dual_3 fine_6 add_7_c0 one_8 sum_9 t_30 t_31 t_321 (fun f_2' dual_3' fine_6' add_7_c0' one_8' sum_9' t_30' t_31' t_32' w' => ((f_2' = f_2 /\ dual_3' = dual_3 /\ fine_6' = fine_6 /\ add_7_c0' = add_7_c0 /\ one_8' = one_8 /\ sum_9' = sum_9 /\ t_30' = t_30 /\ t_31' = t_31 /\ True) /\ I t_32' w') /\ μ t_32' w' < μ t_321 w1) K w1
structure z2p_l1 (f_2 dual_3 : Addr) (fine_6 add_7_c0 : Addr) (one_8 sum_9 : Addr) (t_30 : Sl) (t_31 t_32 : Int) (K : Pw.T5) (w : World) : Prop where
  out : z2p_l1d f_2 dual_3 fine_6 add_7_c0 one_8 sum_9 t_30 t_31 t_32 K w
def z2p_k0d (f_2 dual_3 : Addr) (fine_6 add_7_c0 : Addr) (one_8 sum_9 : Addr) (K : Pw.T5) (w : World) : Prop :=
  ∃ x45 : Sl, w.cell? f_2 = some (Value.slice x45.p x45.l x45.c) /\ z2p_l1 f_2 dual_3 fine_6 add_7_c0 one_8 sum_9 x45 (x45.l : Int) (0 : Int) K w
structure z2p_k0 (f_2 dual_3 : Addr) (fine_6 add_7_c0 : Addr) (one_8 sum_9 : Addr) (K : Pw.T5) (w : World) : Prop where
  out : z2p_k0d f_2 dual_3 fine_6 add_7_c0 one_8 sum_9 K w
def z2p_sd (f_0_0 f_0_1 f_0_2 : Sl) (f_0_3 f_0_4 : Int) (f_0_5 : Sl) (dual_1_0 dual_1_1 : Int) (K : Pw.T5) (w : World) : Prop :=
  let w1 := w.alloc (Obj.cells #[(Value.slice f_0_0.p f_0_0.l f_0_0.c), (Value.slice f_0_1.p f_0_1.l f_0_1.c), (Value.slice f_0_2.p f_0_2.l f_0_2.c), (Value.int .i64 f_0_3), (Value.int .i64 f_0_4), (Value.slice f_0_5.p f_0_5.l f_0_5.c)] 75)
  let w2 := w1.alloc (Obj.cells #[(Value.int .i64 dual_1_0), (Value.int .i64 dual_1_1)] 44)
  let w3 := w2.alloc (Obj.cells #[(Value.bool false)] 4)
  wrOk w3 (Addr.mk w2.heap.size 0 none) /\ 
  (let w4 := w3.setCell (Addr.mk w2.heap.size 0 none) (Value.bool true)
  z2u_sh (1 : Int) (fun r6_0 r6_1 w5 => let w7 := w5.alloc (Obj.cells #[(Value.int .i64 0), (Value.int .i64 0)] 44)
  wrOk w7 (Addr.mk w5.heap.size 0 none) /\ 
  (let w8 := w7.setCell (Addr.mk w5.heap.size 0 none) (Value.int .i64 r6_0)
  wrOk w8 (Addr.mk w5.heap.size 1 none) /\ 
  (let w9 := w8.setCell (Addr.mk w5.heap.size 1 none) (Value.int .i64 r6_1)
  let w10 := w9.drew
  ∃ S11 : World -> Prop, S11 w10 /\ ∃ x12 : Int, (∀ w' : World, S11 w' -> w'.cell? (Addr.mk w1.heap.size 0 none) = some (Value.int .i64 x12)) /\ ∃ x13 : Int, (∀ w' : World, S11 w' -> w'.cell? (Addr.mk w1.heap.size 1 none) = some (Value.int .i64 x13)) /\ ∃ x14 : Int, (∀ w' : World, S11 w' -> w'.cell? (Addr.mk w.heap.size 4 none) = some (Value.int .i64 x14)) /\ (z2u_sh (0 : Int) (fun r16_0 r16_1 w15 => S11 w15 /\ (z2u_sh x14 (fun r18_0 r18_1 w17 => S11 w17 /\ (z1l_sh r16_0 r16_1 x12 x13 r18_0 r18_1 (Addr.mk w2.heap.size 0 none) (fun r20_0 r20_1 w19 => S11 w19 /\ let w21 := w19.alloc (Obj.cells #[(Value.int .i64 0), (Value.int .i64 0)] 44)
  S11 w21 /\ wrOk w21 (Addr.mk w19.heap.size 0 none) /\ 
  (let w22 := w21.setCell (Addr.mk w19.heap.size 0 none) (Value.int .i64 r20_0)
  wrOk w22 (Addr.mk w19.heap.size 1 none) /\ 
  (let w23 := w22.setCell (Addr.mk w19.heap.size 1 none) (Value.int .i64 r20_1)
  z2p_k0 (Addr.mk w.heap.size 0 none) (Addr.mk w1.heap.size 0 none) (Addr.mk w2.heap.size 0 none) (Addr.mk w2.heap.size 0 none) (Addr.mk w5.heap.size 0 none) (Addr.mk w19.heap.size 0 none) K w23))) w17)
    /\ (let w24 := w17.alloc (Obj.cells #[(Value.int .i64 0), (Value.int .i64 0)] 44)
  S11 w24 /\ z1l_sh r16_0 r16_1 x12 x13 r18_0 r18_1 (Addr.mk w2.heap.size 0 none) (fun r26_0 r26_1 w25 => S11 w25 /\ wrOk w25 (Addr.mk w17.heap.size 0 none) /\ 
  (let w27 := w25.setCell (Addr.mk w17.heap.size 0 none) (Value.int .i64 r26_0)
  wrOk w27 (Addr.mk w17.heap.size 1 none) /\ 
  (let w28 := w27.setCell (Addr.mk w17.heap.size 1 none) (Value.int .i64 r26_1)
  z2p_k0 (Addr.mk w.heap.size 0 none) (Addr.mk w1.heap.size 0 none) (Addr.mk w2.heap.size 0 none) (Addr.mk w2.heap.size 0 none) (Addr.mk w5.heap.size 0 none) (Addr.mk w17.heap.size 0 none) K w28))) w24)) w15)
    /\ (let w29 := w15.alloc (Obj.cells #[(Value.int .i64 0), (Value.int .i64 0)] 44)
  S11 w29 /\ z2u_sh x14 (fun r31_0 r31_1 w30 => S11 w30 /\ z1l_sh r16_0 r16_1 x12 x13 r31_0 r31_1 (Addr.mk w2.heap.size 0 none) (fun r33_0 r33_1 w32 => S11 w32 /\ wrOk w32 (Addr.mk w15.heap.size 0 none) /\ 
  (let w34 := w32.setCell (Addr.mk w15.heap.size 0 none) (Value.int .i64 r33_0)
  wrOk w34 (Addr.mk w15.heap.size 1 none) /\ 
  (let w35 := w34.setCell (Addr.mk w15.heap.size 1 none) (Value.int .i64 r33_1)
  z2p_k0 (Addr.mk w.heap.size 0 none) (Addr.mk w1.heap.size 0 none) (Addr.mk w2.heap.size 0 none) (Addr.mk w2.heap.size 0 none) (Addr.mk w5.heap.size 0 none) (Addr.mk w15.heap.size 0 none) K w35))) w30) w29)) w10)
    /\ (let w36 := w10.alloc (Obj.cells #[(Value.int .i64 0), (Value.int .i64 0)] 44)
  S11 w36 /\ z2u_sh (0 : Int) (fun r38_0 r38_1 w37 => S11 w37 /\ z2u_sh x14 (fun r40_0 r40_1 w39 => S11 w39 /\ z1l_sh r38_0 r38_1 x12 x13 r40_0 r40_1 (Addr.mk w2.heap.size 0 none) (fun r42_0 r42_1 w41 => S11 w41 /\ wrOk w41 (Addr.mk w10.heap.size 0 none) /\ 
  (let w43 := w41.setCell (Addr.mk w10.heap.size 0 none) (Value.int .i64 r42_0)
  wrOk w43 (Addr.mk w10.heap.size 1 none) /\ 
  (let w44 := w43.setCell (Addr.mk w10.heap.size 1 none) (Value.int .i64 r42_1)
  z2p_k0 (Addr.mk w.heap.size 0 none) (Addr.mk w1.heap.size 0 none) (Addr.mk w2.heap.size 0 none) (Addr.mk w2.heap.size 0 none) (Addr.mk w5.heap.size 0 none) (Addr.mk w10.heap.size 0 none) K w44))) w39) w37) w36)))) w4)
structure z2p_sh (f_0_0 f_0_1 f_0_2 : Sl) (f_0_3 f_0_4 : Int) (f_0_5 : Sl) (dual_1_0 dual_1_1 : Int) (K : Pw.T5) (w : World) : Prop where
  out : z2p_sd f_0_0 f_0_1 f_0_2 f_0_3 f_0_4 f_0_5 dual_1_0 dual_1_1 K w
def z2p_P0 (Kv : VW) (ρ : Rho) (vs : List Value) (w : World) : Prop :=
  match ρ, vs with
  | _, [.pointer (some f_2), .pointer (some dual_3), .pointer (some fine_6), .func (.func 98) ⟨[]⟩ ⟨[.pointer (some add_7_c0)]⟩, .pointer (some one_8), .pointer (some sum_9)] => z2p_k0 f_2 dual_3 fine_6 add_7_c0 one_8 sum_9 (Pw.kJ Kv) w
  | _, _ => False
def z2p_P1 (Kv : VW) (ρ : Rho) (vs : List Value) (w : World) : Prop :=
  match ρ, vs with
  | _, [.pointer (some f_2), .pointer (some dual_3), .pointer (some fine_6), .func (.func 98) ⟨[]⟩ ⟨[.pointer (some add_7_c0)]⟩, .pointer (some one_8), .pointer (some sum_9), .slice t_30p t_30l t_30c, .int .i64 t_31, .int .i64 t_32] => z2p_l1 f_2 dual_3 fine_6 add_7_c0 one_8 sum_9 ⟨t_30p, t_30l, t_30c⟩ t_31 t_32 (Pw.kJ Kv) w
  | _, _ => False
def z2p_P2 (Kv : VW) (ρ : Rho) (vs : List Value) (w : World) : Prop :=
  match ρ, vs with
  | N1 :: _, [.pointer (some f_2), .pointer (some dual_3), .pointer (some fine_6), .func (.func 98) ⟨[]⟩ ⟨[.pointer (some add_7_c0)]⟩, .pointer (some one_8), .pointer (some sum_9), .int .i64 i_10, .int .i64 lot_11, .pointer (some best_12), .slice t_30p t_30l t_30c, .int .i64 t_31, .int .i64 t_32, .slice t_40p t_40l t_40c, .int .i64 t_41, .int .i64 t_42] => z2p_l2 f_2 dual_3 fine_6 add_7_c0 one_8 sum_9 i_10 lot_11 best_12 ⟨t_30p, t_30l, t_30c⟩ t_31 t_32 ⟨t_40p, t_40l, t_40c⟩ t_41 t_42 (fun f_2' dual_3' fine_6' add_7_c0' one_8' sum_9' t_30' t_31' t_32' w' => N1 [(Value.pointer (some f_2')), (Value.pointer (some dual_3')), (Value.pointer (some fine_6')), (Value.func (.func 98) #[] #[(Value.pointer (some add_7_c0'))]), (Value.pointer (some one_8')), (Value.pointer (some sum_9')), (Value.slice t_30'.p t_30'.l t_30'.c), (Value.int .i64 t_31'), (Value.int .i64 t_32')] w') (Pw.kJ Kv) w
  | _, _ => False
def z2p_P3 (Kv : VW) (ρ : Rho) (vs : List Value) (w : World) : Prop :=
  match ρ, vs with
  | N2 :: N1 :: _, [.pointer (some f_2), .pointer (some dual_3), .pointer (some fine_6), .func (.func 98) ⟨[]⟩ ⟨[.pointer (some add_7_c0)]⟩, .pointer (some one_8), .pointer (some sum_9), .int .i64 i_10, .int .i64 lot_11, .pointer (some best_12), .pointer (some c_14), .bool decided_15, .slice t_30p t_30l t_30c, .int .i64 t_31, .int .i64 t_32, .slice t_40p t_40l t_40c, .int .i64 t_41, .int .i64 t_42] => z2p_k3 f_2 dual_3 fine_6 add_7_c0 one_8 sum_9 i_10 lot_11 best_12 c_14 decided_15 ⟨t_30p, t_30l, t_30c⟩ t_31 t_32 ⟨t_40p, t_40l, t_40c⟩ t_41 t_42 (fun f_2' dual_3' fine_6' add_7_c0' one_8' sum_9' i_10' lot_11' best_12' t_30' t_31' t_32' t_40' t_41' t_42' w' => N2 [(Value.pointer (some f_2')), (Value.pointer (some dual_3')), (Value.pointer (some fine_6')), (Value.func (.func 98) #[] #[(Value.pointer (some add_7_c0'))]), (Value.pointer (some one_8')), (Value.pointer (some sum_9')), (Value.int .i64 i_10'), (Value.int .i64 lot_11'), (Value.pointer (some best_12')), (Value.slice t_30'.p t_30'.l t_30'.c), (Value.int .i64 t_31'), (Value.int .i64 t_32'), (Value.slice t_40'.p t_40'.l t_40'.c), (Value.int .i64 t_41'), (Value.int .i64 t_42')] w') (fun f_2' dual_3' fine_6' add_7_c0' one_8' sum_9' t_30' t_31' t_32' w' => N1 [(Value.pointer (some f_2')), (Value.pointer (some dual_3')), (Value.pointer (some fine_6')), (Value.func (.func 98) #[] #[(Value.pointer (some add_7_c0'))]), (Value.pointer (some one_8')), (Value.pointer (some sum_9')), (Value.slice t_30'.p t_30'.l t_30'.c), (Value.int .i64 t_31'), (Value.int .i64 t_32')] w') (Pw.kJ Kv) w
  | _, _ => False
def z2p_P4 (Kv : VW) (ρ : Rho) (vs : List Value) (w : World) : Prop :=
  match ρ, vs with
  | N2 :: N1 :: _, [.pointer (some f_2), .pointer (some dual_3), .pointer (some fine_6), .func (.func 98) ⟨[]⟩ ⟨[.pointer (some add_7_c0)]⟩, .pointer (some one_8), .pointer (some sum_9), .int .i64 i_10, .int .i64 lot_11, .pointer (some best_12), .bool decided_15, .pointer (some x_16), .slice t_30p t_30l t_30c, .int .i64 t_31, .int .i64 t_32, .slice t_40p t_40l t_40c, .int .i64 t_41, .int .i64 t_42] => z2p_k4 f_2 dual_3 fine_6 add_7_c0 one_8 sum_9 i_10 lot_11 best_12 decided_15 x_16 ⟨t_30p, t_30l, t_30c⟩ t_31 t_32 ⟨t_40p, t_40l, t_40c⟩ t_41 t_42 (fun f_2' dual_3' fine_6' add_7_c0' one_8' sum_9' i_10' lot_11' best_12' t_30' t_31' t_32' t_40' t_41' t_42' w' => N2 [(Value.pointer (some f_2')), (Value.pointer (some dual_3')), (Value.pointer (some fine_6')), (Value.func (.func 98) #[] #[(Value.pointer (some add_7_c0'))]), (Value.pointer (some one_8')), (Value.pointer (some sum_9')), (Value.int .i64 i_10'), (Value.int .i64 lot_11'), (Value.pointer (some best_12')), (Value.slice t_30'.p t_30'.l t_30'.c), (Value.int .i64 t_31'), (Value.int .i64 t_32'), (Value.slice t_40'.p t_40'.l t_40'.c), (Value.int .i64 t_41'), (Value.int .i64 t_42')] w') (fun f_2' dual_3' fine_6' add_7_c0' one_8' sum_9' t_30' t_31' t_32' w' => N1 [(Value.pointer (some f_2')), (Value.pointer (some dual_3')), (Value.pointer (some fine_6')), (Value.func (.func 98) #[] #[(Value.pointer (some add_7_c0'))]), (Value.pointer (some one_8')), (Value.pointer (some sum_9')), (Value.slice t_30'.p t_30'.l t_30'.c), (Value.int .i64 t_31'), (Value.int .i64 t_32')] w') (Pw.kJ Kv) w
  | _, _ => False
def z2p_P5 (Kv : VW) (ρ : Rho) (vs : List Value) (w : World) : Prop :=
  match ρ, vs with
  | N2 :: N1 :: _, [.pointer (some f_2), .pointer (some dual_3), .pointer (some fine_6), .func (.func 98) ⟨[]⟩ ⟨[.pointer (some add_7_c0)]⟩, .pointer (some one_8), .pointer (some sum_9), .int .i64 i_10, .int .i64 lot_11, .pointer (some best_12), .pointer (some x_16), .slice t_30p t_30l t_30c, .int .i64 t_31, .int .i64 t_32, .slice t_40p t_40l t_40c, .int .i64 t_41, .int .i64 t_42] => z2p_k5 f_2 dual_3 fine_6 add_7_c0 one_8 sum_9 i_10 lot_11 best_12 x_16 ⟨t_30p, t_30l, t_30c⟩ t_31 t_32 ⟨t_40p, t_40l, t_40c⟩ t_41 t_42 (fun f_2' dual_3' fine_6' add_7_c0' one_8' sum_9' i_10' lot_11' best_12' t_30' t_31' t_32' t_40' t_41' t_42' w' => N2 [(Value.pointer (some f_2')), (Value.pointer (some dual_3')), (Value.pointer (some fine_6')), (Value.func (.func 98) #[] #[(Value.pointer (some add_7_c0'))]), (Value.pointer (some one_8')), (Value.pointer (some sum_9')), (Value.int .i64 i_10'), (Value.int .i64 lot_11'), (Value.pointer (some best_12')), (Value.slice t_30'.p t_30'.l t_30'.c), (Value.int .i64 t_31'), (Value.int .i64 t_32'), (Value.slice t_40'.p t_40'.l t_40'.c), (Value.int .i64 t_41'), (Value.int .i64 t_42')] w') (fun f_2' dual_3' fine_6' add_7_c0' one_8' sum_9' t_30' t_31' t_32' w' => N1 [(Value.pointer (some f_2')), (Value.pointer (some dual_3')), (Value.pointer (some fine_6')), (Value.func (.func 98) #[] #[(Value.pointer (some add_7_c0'))]), (Value.pointer (some one_8')), (Value.pointer (some sum_9')), (Value.slice t_30'.p t_30'.l t_30'.c), (Value.int .i64 t_31'), (Value.int .i64 t_32')] w') (Pw.kJ Kv) w
  | _, _ => False
noncomputable def z2p_S : Pw.Spec := fun vs w Kv =>
  match vs with
  | [.agg ⟨[.slice f_0_0p f_0_0l f_0_0c, .slice f_0_1p f_0_1l f_0_1c, .slice f_0_2p f_0_2l f_0_2c, .int .i64 f_0_3, .int .i64 f_0_4, .slice f_0_5p f_0_5l f_0_5c]⟩, .agg ⟨[.int .i64 dual_1_0, .int .i64 dual_1_1]⟩] => z2p_sh ⟨f_0_0p, f_0_0l, f_0_0c⟩ ⟨f_0_1p, f_0_1l, f_0_1c⟩ ⟨f_0_2p, f_0_2l, f_0_2c⟩ f_0_3 f_0_4 ⟨f_0_5p, f_0_5l, f_0_5c⟩ dual_1_0 dual_1_1 (Pw.kJ Kv) w
  | _ => False
noncomputable def z2p_E : Pw.Env := [(56, z2u_S), (71, z2z_S), (97, z3k_S), (98, z1l_S), (101, z21_S), (102, z14_S)]
noncomputable def z2p_C : Code := (Tryz.f83.body).getD .skip
noncomputable def z2p_A (Kv : VW) : Pw.A :=
  (A.seq (A.reg (Pw.rn 4 RA.done))
   (A.seq (A.reg (Pw.rn 2 RA.done))
   (A.seq (A.reg (Pw.rn 2 RA.done))
   (A.seq (A.reg (Pw.rn 3 RA.done))
   (A.seq (A.drw (DA.pur 0 (DA.pur 2 (DA.pur 3 (DA.pur 4 (DA.pur 5 (DA.two 1 (DA.two 6 (DA.two 7 (DA.eff 8 (DA.eff 9 DA.done)) 8 (DA.eff 7 (DA.eff 9 DA.done))) 8 (DA.eff 6 (DA.eff 7 (DA.eff 9 DA.done)))) 8 (DA.eff 1 (DA.eff 6 (DA.eff 7 (DA.eff 9 DA.done)))))))))))
   (A.cut [2, 3, 6, 7, 8, 9] (z2p_P0 Kv) (A.seq (A.seq (A.reg (Pw.rn 5 RA.done))
   (A.blk (A.loop [2, 3, 6, 7, 8, 9, 30, 31, 32] (z2p_P1 Kv) (A.seq (A.reg (RA.run RA.done))
   (A.seq (A.cond A.leaf
   A.leaf)
   (A.seq (A.blk (A.seq (A.reg (Pw.rn 5 RA.done))
   (A.seq (A.reg (Pw.rn 3 RA.done))
   (A.seq (A.seq (A.reg (Pw.rn 5 RA.done))
   (A.blk (A.loop [2, 3, 6, 7, 8, 9, 10, 11, 12, 30, 31, 32, 40, 41, 42] (z2p_P2 Kv) (A.seq (A.reg (RA.run RA.done))
   (A.seq (A.cond A.leaf
   A.leaf)
   (A.seq (A.blk (A.seq (A.reg (Pw.rn 6 RA.done))
   (A.seq (A.reg (Pw.rn 6 RA.done))
   (A.seq (A.seq (A.reg (Pw.rn 5 (RA.spl 56 (Pw.sk 10 (RA.run RA.done)) (Pw.rn 2 (RA.spl 58 (Pw.rn 9 RA.done) (Pw.sk 7 (Pw.rn 2 RA.done)))))))
   (A.cond A.leaf
   A.leaf))
   (A.cut [2, 3, 6, 7, 8, 9, 10, 11, 12, 14, 15, 30, 31, 32, 40, 41, 42] (z2p_P3 Kv) (A.seq (A.drw (DA.pur 0 (DA.pur 1 (DA.pur 2 (DA.pur 5 (DA.pur 6 (DA.pur 7 (DA.pur 8 (DA.two 3 (DA.two 4 (DA.two 9 (DA.two 10 (DA.eff 11 (DA.eff 12 DA.done)) 11 (DA.eff 10 (DA.eff 12 DA.done))) 11 (DA.eff 9 (DA.eff 10 (DA.eff 12 DA.done)))) 11 (DA.eff 4 (DA.eff 9 (DA.eff 10 (DA.eff 12 DA.done))))) 11 (DA.eff 3 (DA.eff 4 (DA.eff 9 (DA.eff 10 (DA.eff 12 DA.done))))))))))))))
   (A.cut [2, 3, 6, 7, 8, 9, 10, 11, 12, 15, 16, 30, 31, 32, 40, 41, 42] (z2p_P4 Kv) (A.seq (A.reg (Pw.rn 2 (RA.spl 80 (Pw.sk 4 (RA.run RA.done)) (Pw.rn 5 RA.done))))
   (A.cond (A.cut [2, 3, 6, 7, 8, 9, 10, 11, 12, 16, 30, 31, 32, 40, 41, 42] (z2p_P5 Kv) (A.reg (Pw.rn 2 RA.done)))
   A.leaf)))))))))
   (A.reg (Pw.rn 2 RA.done))))))))
   (A.reg (Pw.rn 6 RA.done))))))
   (A.reg (Pw.rn 2 RA.done))))))))
   (A.seq (A.reg (Pw.rn 7 RA.done))
   (A.seq (A.drw (DA.pur 0 (DA.pur 1 (DA.pur 2 (DA.pur 3 (DA.eff 4 (DA.eff 5 (DA.eff 6 (DA.eff 7 DA.done)))))))))
   (A.seq (A.drw (DA.pur 0 (DA.pur 2 (DA.eff 1 (DA.pur 3 (DA.pur 4 DA.done))))))
   A.leaf))))))))))
noncomputable def z2p_O (Kv : VW) : List Ob := (obs Tryz.prog z2p_E 109 (z2p_A Kv) z2p_C (fun _ => retQ Tryz.prog Tryz.f83.results Kv))
theorem z2p_e (Kv : VW) (f_0_0p : Option Addr) (f_0_0l f_0_0c : Nat) (f_0_1p : Option Addr) (f_0_1l f_0_1c : Nat) (f_0_2p : Option Addr) (f_0_2l f_0_2c : Nat) (f_0_3 f_0_4 : Int) (f_0_5p : Option Addr) (f_0_5l f_0_5c : Nat) (dual_1_0 dual_1_1 : Int) (w : World) : z2p_sd ⟨f_0_0p, f_0_0l, f_0_0c⟩ ⟨f_0_1p, f_0_1l, f_0_1c⟩ ⟨f_0_2p, f_0_2l, f_0_2c⟩ f_0_3 f_0_4 ⟨f_0_5p, f_0_5l, f_0_5c⟩ dual_1_0 dual_1_1 (Pw.kJ Kv) w = W Tryz.prog z2p_E 109 (z2p_A Kv) z2p_C [] (retQ Tryz.prog Tryz.f83.results Kv) [] (startS [(Value.agg #[(Value.slice f_0_0p f_0_0l f_0_0c), (Value.slice f_0_1p f_0_1l f_0_1c), (Value.slice f_0_2p f_0_2l f_0_2c), (Value.int .i64 f_0_3), (Value.int .i64 f_0_4), (Value.slice f_0_5p f_0_5l f_0_5c)]), (Value.agg #[(Value.int .i64 dual_1_0), (Value.int .i64 dual_1_1)])]) w := by kernel_rfl
theorem z2p_e0 (Kv : VW) (ρ : Rho) (f_2 dual_3 : Addr) (fine_6 add_7_c0 : Addr) (one_8 sum_9 : Addr) (w : World) : z2p_k0d f_2 dual_3 fine_6 add_7_c0 one_8 sum_9 (Pw.kJ Kv) w = goalAt Tryz.prog z2p_E 109 (z2p_O Kv) 0 (ρ) [(Value.pointer (some f_2)), (Value.pointer (some dual_3)), (Value.pointer (some fine_6)), (Value.func (.func 98) #[] #[(Value.pointer (some add_7_c0))]), (Value.pointer (some one_8)), (Value.pointer (some sum_9))] w := by kernel_rfl
theorem z2p_q0 (Kv : VW) (ρ : Rho) (vs : List Value) (w : World) : labAt (z2p_O Kv) 0 ρ vs w = z2p_P0 Kv ρ vs w := by kernel_rfl
theorem z2p_h0 (Kv : VW) : holdsAt Tryz.prog z2p_E 109 (z2p_O Kv) 0 := holdsAt_cut (.inl (by kernel_rfl)) (fun ρ vs w h => by
  rw [z2p_q0] at h
  unfold z2p_P0 at h
  split at h
  . rw [← z2p_e0]; exact h.out
  . exact h.elim)
theorem z2p_e1 (Kv : VW) (N1 : List Value -> World -> Prop) (ρ : Rho) (f_2 dual_3 : Addr) (fine_6 add_7_c0 : Addr) (one_8 sum_9 : Addr) (t_30p : Option Addr) (t_30l t_30c : Nat) (t_31 t_32 : Int) (w : World) : z2p_b1 f_2 dual_3 fine_6 add_7_c0 one_8 sum_9 ⟨t_30p, t_30l, t_30c⟩ t_31 t_32 (fun f_2' dual_3' fine_6' add_7_c0' one_8' sum_9' t_30' t_31' t_32' w' => N1 [(Value.pointer (some f_2')), (Value.pointer (some dual_3')), (Value.pointer (some fine_6')), (Value.func (.func 98) #[] #[(Value.pointer (some add_7_c0'))]), (Value.pointer (some one_8')), (Value.pointer (some sum_9')), (Value.slice t_30'.p t_30'.l t_30'.c), (Value.int .i64 t_31'), (Value.int .i64 t_32')] w') (Pw.kJ Kv) w = goalAt Tryz.prog z2p_E 109 (z2p_O Kv) 1 (N1 :: ρ) [(Value.pointer (some f_2)), (Value.pointer (some dual_3)), (Value.pointer (some fine_6)), (Value.func (.func 98) #[] #[(Value.pointer (some add_7_c0))]), (Value.pointer (some one_8)), (Value.pointer (some sum_9)), (Value.slice t_30p t_30l t_30c), (Value.int .i64 t_31), (Value.int .i64 t_32)] w := by kernel_rfl
theorem z2p_q1 (Kv : VW) (ρ : Rho) (vs : List Value) (w : World) : labAt (z2p_O Kv) 1 ρ vs w = z2p_P1 Kv ρ vs w := by kernel_rfl
def z2p_I1 (f_20 dual_30 : Addr) (fine_60 add_7_c00 : Addr) (one_80 sum_90 : Addr) (t_300 : Sl) (t_310 : Int) (I : Int -> World -> Prop) (vs : List Value) (w : World) : Prop :=
  match vs with
  | [.pointer (some f_2), .pointer (some dual_3), .pointer (some fine_6), .func (.func 98) ⟨[]⟩ ⟨[.pointer (some add_7_c0)]⟩, .pointer (some one_8), .pointer (some sum_9), .slice t_30p t_30l t_30c, .int .i64 t_31, .int .i64 t_32] => (f_2 = f_20 /\ dual_3 = dual_30 /\ fine_6 = fine_60 /\ add_7_c0 = add_7_c00 /\ one_8 = one_80 /\ sum_9 = sum_90 /\ ⟨t_30p, t_30l, t_30c⟩ = t_300 /\ t_31 = t_310 /\ True) /\ I t_32 w
  | _ => False
def z2p_M1 (μ : Int -> World -> Nat) (vs : List Value) (w : World) : Nat :=
  match vs with
  | [.pointer (some _f_2), .pointer (some _dual_3), .pointer (some _fine_6), .func (.func 98) ⟨[]⟩ ⟨[.pointer (some _add_7_c0)]⟩, .pointer (some _one_8), .pointer (some _sum_9), .slice _t_30p _t_30l _t_30c, .int .i64 _t_31, .int .i64 t_32] => μ t_32 w
  | _ => 0
theorem z2p_h1 (Kv : VW) : holdsAt Tryz.prog z2p_E 109 (z2p_O Kv) 1 := holdsAt_loop (by kernel_rfl) (fun ρ vs w h => by
  rw [z2p_q1] at h
  unfold z2p_P1 at h
  split at h
  . rename_i ρt f_2 dual_3 fine_6 add_7_c0 one_8 sum_9 t_30p t_30l t_30c t_31 t_32
    obtain ⟨I, μ, h0, hr⟩ := h.out
    refine ⟨z2p_I1 f_2 dual_3 fine_6 add_7_c0 one_8 sum_9 ⟨t_30p, t_30l, t_30c⟩ t_31 I, z2p_M1 μ, ⟨⟨rfl, rfl, rfl, rfl, rfl, rfl, rfl, rfl, trivial⟩, h0⟩, fun vs w hI => ?_⟩
    unfold z2p_I1 at hI
    split at hI
    . obtain ⟨⟨h0, h1, h2, h3, h4, h5, h6, h7, _⟩, hI⟩ := hI
      cases h0; cases h1; cases h2; cases h3; cases h4; cases h5; cases h6; cases h7
      rw [← z2p_e1]
      exact hr _ _ hI
    . exact hI.elim
  . exact h.elim)
theorem z2p_e2 (Kv : VW) (N2 N1 : List Value -> World -> Prop) (ρ : Rho) (f_2 dual_3 : Addr) (fine_6 add_7_c0 : Addr) (one_8 sum_9 : Addr) (i_10 lot_11 : Int) (best_12 : Addr) (t_30p : Option Addr) (t_30l t_30c : Nat) (t_31 t_32 : Int) (t_40p : Option Addr) (t_40l t_40c : Nat) (t_41 t_42 : Int) (w : World) : z2p_b2 f_2 dual_3 fine_6 add_7_c0 one_8 sum_9 i_10 lot_11 best_12 ⟨t_30p, t_30l, t_30c⟩ t_31 t_32 ⟨t_40p, t_40l, t_40c⟩ t_41 t_42 (fun f_2' dual_3' fine_6' add_7_c0' one_8' sum_9' i_10' lot_11' best_12' t_30' t_31' t_32' t_40' t_41' t_42' w' => N2 [(Value.pointer (some f_2')), (Value.pointer (some dual_3')), (Value.pointer (some fine_6')), (Value.func (.func 98) #[] #[(Value.pointer (some add_7_c0'))]), (Value.pointer (some one_8')), (Value.pointer (some sum_9')), (Value.int .i64 i_10'), (Value.int .i64 lot_11'), (Value.pointer (some best_12')), (Value.slice t_30'.p t_30'.l t_30'.c), (Value.int .i64 t_31'), (Value.int .i64 t_32'), (Value.slice t_40'.p t_40'.l t_40'.c), (Value.int .i64 t_41'), (Value.int .i64 t_42')] w') (fun f_2' dual_3' fine_6' add_7_c0' one_8' sum_9' t_30' t_31' t_32' w' => N1 [(Value.pointer (some f_2')), (Value.pointer (some dual_3')), (Value.pointer (some fine_6')), (Value.func (.func 98) #[] #[(Value.pointer (some add_7_c0'))]), (Value.pointer (some one_8')), (Value.pointer (some sum_9')), (Value.slice t_30'.p t_30'.l t_30'.c), (Value.int .i64 t_31'), (Value.int .i64 t_32')] w') (Pw.kJ Kv) w = goalAt Tryz.prog z2p_E 109 (z2p_O Kv) 2 (N2 :: N1 :: ρ) [(Value.pointer (some f_2)), (Value.pointer (some dual_3)), (Value.pointer (some fine_6)), (Value.func (.func 98) #[] #[(Value.pointer (some add_7_c0))]), (Value.pointer (some one_8)), (Value.pointer (some sum_9)), (Value.int .i64 i_10), (Value.int .i64 lot_11), (Value.pointer (some best_12)), (Value.slice t_30p t_30l t_30c), (Value.int .i64 t_31), (Value.int .i64 t_32), (Value.slice t_40p t_40l t_40c), (Value.int .i64 t_41), (Value.int .i64 t_42)] w := by kernel_rfl
theorem z2p_q2 (Kv : VW) (ρ : Rho) (vs : List Value) (w : World) : labAt (z2p_O Kv) 2 ρ vs w = z2p_P2 Kv ρ vs w := by kernel_rfl
def z2p_I2 (f_20 dual_30 : Addr) (fine_60 add_7_c00 : Addr) (one_80 sum_90 : Addr) (i_100 lot_110 : Int) (best_120 : Addr) (t_300 : Sl) (t_310 t_320 : Int) (t_400 : Sl) (t_410 : Int) (I : Int -> World -> Prop) (vs : List Value) (w : World) : Prop :=
  match vs with
  | [.pointer (some f_2), .pointer (some dual_3), .pointer (some fine_6), .func (.func 98) ⟨[]⟩ ⟨[.pointer (some add_7_c0)]⟩, .pointer (some one_8), .pointer (some sum_9), .int .i64 i_10, .int .i64 lot_11, .pointer (some best_12), .slice t_30p t_30l t_30c, .int .i64 t_31, .int .i64 t_32, .slice t_40p t_40l t_40c, .int .i64 t_41, .int .i64 t_42] => (f_2 = f_20 /\ dual_3 = dual_30 /\ fine_6 = fine_60 /\ add_7_c0 = add_7_c00 /\ one_8 = one_80 /\ sum_9 = sum_90 /\ i_10 = i_100 /\ lot_11 = lot_110 /\ best_12 = best_120 /\ ⟨t_30p, t_30l, t_30c⟩ = t_300 /\ t_31 = t_310 /\ t_32 = t_320 /\ ⟨t_40p, t_40l, t_40c⟩ = t_400 /\ t_41 = t_410 /\ True) /\ I t_42 w
  | _ => False
def z2p_M2 (μ : Int -> World -> Nat) (vs : List Value) (w : World) : Nat :=
  match vs with
  | [.pointer (some _f_2), .pointer (some _dual_3), .pointer (some _fine_6), .func (.func 98) ⟨[]⟩ ⟨[.pointer (some _add_7_c0)]⟩, .pointer (some _one_8), .pointer (some _sum_9), .int .i64 _i_10, .int .i64 _lot_11, .pointer (some _best_12), .slice _t_30p _t_30l _t_30c, .int .i64 _t_31, .int .i64 _t_32, .slice _t_40p _t_40l _t_40c, .int .i64 _t_41, .int .i64 t_42] => μ t_42 w
  | _ => 0
theorem z2p_h2 (Kv : VW) : holdsAt Tryz.prog z2p_E 109 (z2p_O Kv) 2 := holdsAt_loop (by kernel_rfl) (fun ρ vs w h => by
  rw [z2p_q2] at h
  unfold z2p_P2 at h
  split at h
  . rename_i N1 ρt f_2 dual_3 fine_6 add_7_c0 one_8 sum_9 i_10 lot_11 best_12 t_30p t_30l t_30c t_31 t_32 t_40p t_40l t_40c t_41 t_42
    obtain ⟨I, μ, h0, hr⟩ := h.out
    refine ⟨z2p_I2 f_2 dual_3 fine_6 add_7_c0 one_8 sum_9 i_10 lot_11 best_12 ⟨t_30p, t_30l, t_30c⟩ t_31 t_32 ⟨t_40p, t_40l, t_40c⟩ t_41 I, z2p_M2 μ, ⟨⟨rfl, rfl, rfl, rfl, rfl, rfl, rfl, rfl, rfl, rfl, rfl, rfl, rfl, rfl, trivial⟩, h0⟩, fun vs w hI => ?_⟩
    unfold z2p_I2 at hI
    split at hI
    . obtain ⟨⟨h0, h1, h2, h3, h4, h5, h6, h7, h8, h9, h10, h11, h12, h13, _⟩, hI⟩ := hI
      cases h0; cases h1; cases h2; cases h3; cases h4; cases h5; cases h6; cases h7; cases h8; cases h9; cases h10; cases h11; cases h12; cases h13
      rw [← z2p_e2]
      exact hr _ _ hI
    . exact hI.elim
  . exact h.elim)
theorem z2p_e3 (Kv : VW) (N2 N1 : List Value -> World -> Prop) (ρ : Rho) (f_2 dual_3 : Addr) (fine_6 add_7_c0 : Addr) (one_8 sum_9 : Addr) (i_10 lot_11 : Int) (best_12 c_14 : Addr) (decided_15 : Bool) (t_30p : Option Addr) (t_30l t_30c : Nat) (t_31 t_32 : Int) (t_40p : Option Addr) (t_40l t_40c : Nat) (t_41 t_42 : Int) (w : World) : z2p_k3d f_2 dual_3 fine_6 add_7_c0 one_8 sum_9 i_10 lot_11 best_12 c_14 decided_15 ⟨t_30p, t_30l, t_30c⟩ t_31 t_32 ⟨t_40p, t_40l, t_40c⟩ t_41 t_42 (fun f_2' dual_3' fine_6' add_7_c0' one_8' sum_9' i_10' lot_11' best_12' t_30' t_31' t_32' t_40' t_41' t_42' w' => N2 [(Value.pointer (some f_2')), (Value.pointer (some dual_3')), (Value.pointer (some fine_6')), (Value.func (.func 98) #[] #[(Value.pointer (some add_7_c0'))]), (Value.pointer (some one_8')), (Value.pointer (some sum_9')), (Value.int .i64 i_10'), (Value.int .i64 lot_11'), (Value.pointer (some best_12')), (Value.slice t_30'.p t_30'.l t_30'.c), (Value.int .i64 t_31'), (Value.int .i64 t_32'), (Value.slice t_40'.p t_40'.l t_40'.c), (Value.int .i64 t_41'), (Value.int .i64 t_42')] w') (fun f_2' dual_3' fine_6' add_7_c0' one_8' sum_9' t_30' t_31' t_32' w' => N1 [(Value.pointer (some f_2')), (Value.pointer (some dual_3')), (Value.pointer (some fine_6')), (Value.func (.func 98) #[] #[(Value.pointer (some add_7_c0'))]), (Value.pointer (some one_8')), (Value.pointer (some sum_9')), (Value.slice t_30'.p t_30'.l t_30'.c), (Value.int .i64 t_31'), (Value.int .i64 t_32')] w') (Pw.kJ Kv) w = goalAt Tryz.prog z2p_E 109 (z2p_O Kv) 3 (N2 :: N1 :: ρ) [(Value.pointer (some f_2)), (Value.pointer (some dual_3)), (Value.pointer (some fine_6)), (Value.func (.func 98) #[] #[(Value.pointer (some add_7_c0))]), (Value.pointer (some one_8)), (Value.pointer (some sum_9)), (Value.int .i64 i_10), (Value.int .i64 lot_11), (Value.pointer (some best_12)), (Value.pointer (some c_14)), (Value.bool decided_15), (Value.slice t_30p t_30l t_30c), (Value.int .i64 t_31), (Value.int .i64 t_32), (Value.slice t_40p t_40l t_40c), (Value.int .i64 t_41), (Value.int .i64 t_42)] w := by kernel_rfl
theorem z2p_q3 (Kv : VW) (ρ : Rho) (vs : List Value) (w : World) : labAt (z2p_O Kv) 3 ρ vs w = z2p_P3 Kv ρ vs w := by kernel_rfl
theorem z2p_h3 (Kv : VW) : holdsAt Tryz.prog z2p_E 109 (z2p_O Kv) 3 := holdsAt_cut (.inl (by kernel_rfl)) (fun ρ vs w h => by
  rw [z2p_q3] at h
  unfold z2p_P3 at h
  split at h
  . rw [← z2p_e3]; exact h.out
  . exact h.elim)
theorem z2p_e4 (Kv : VW) (N2 N1 : List Value -> World -> Prop) (ρ : Rho) (f_2 dual_3 : Addr) (fine_6 add_7_c0 : Addr) (one_8 sum_9 : Addr) (i_10 lot_11 : Int) (best_12 : Addr) (decided_15 : Bool) (x_16 : Addr) (t_30p : Option Addr) (t_30l t_30c : Nat) (t_31 t_32 : Int) (t_40p : Option Addr) (t_40l t_40c : Nat) (t_41 t_42 : Int) (w : World) : z2p_k4d f_2 dual_3 fine_6 add_7_c0 one_8 sum_9 i_10 lot_11 best_12 decided_15 x_16 ⟨t_30p, t_30l, t_30c⟩ t_31 t_32 ⟨t_40p, t_40l, t_40c⟩ t_41 t_42 (fun f_2' dual_3' fine_6' add_7_c0' one_8' sum_9' i_10' lot_11' best_12' t_30' t_31' t_32' t_40' t_41' t_42' w' => N2 [(Value.pointer (some f_2')), (Value.pointer (some dual_3')), (Value.pointer (some fine_6')), (Value.func (.func 98) #[] #[(Value.pointer (some add_7_c0'))]), (Value.pointer (some one_8')), (Value.pointer (some sum_9')), (Value.int .i64 i_10'), (Value.int .i64 lot_11'), (Value.pointer (some best_12')), (Value.slice t_30'.p t_30'.l t_30'.c), (Value.int .i64 t_31'), (Value.int .i64 t_32'), (Value.slice t_40'.p t_40'.l t_40'.c), (Value.int .i64 t_41'), (Value.int .i64 t_42')] w') (fun f_2' dual_3' fine_6' add_7_c0' one_8' sum_9' t_30' t_31' t_32' w' => N1 [(Value.pointer (some f_2')), (Value.pointer (some dual_3')), (Value.pointer (some fine_6')), (Value.func (.func 98) #[] #[(Value.pointer (some add_7_c0'))]), (Value.pointer (some one_8')), (Value.pointer (some sum_9')), (Value.slice t_30'.p t_30'.l t_30'.c), (Value.int .i64 t_31'), (Value.int .i64 t_32')] w') (Pw.kJ Kv) w = goalAt Tryz.prog z2p_E 109 (z2p_O Kv) 4 (N2 :: N1 :: ρ) [(Value.pointer (some f_2)), (Value.pointer (some dual_3)), (Value.pointer (some fine_6)), (Value.func (.func 98) #[] #[(Value.pointer (some add_7_c0))]), (Value.pointer (some one_8)), (Value.pointer (some sum_9)), (Value.int .i64 i_10), (Value.int .i64 lot_11), (Value.pointer (some best_12)), (Value.bool decided_15), (Value.pointer (some x_16)), (Value.slice t_30p t_30l t_30c), (Value.int .i64 t_31), (Value.int .i64 t_32), (Value.slice t_40p t_40l t_40c), (Value.int .i64 t_41), (Value.int .i64 t_42)] w := by kernel_rfl
theorem z2p_q4 (Kv : VW) (ρ : Rho) (vs : List Value) (w : World) : labAt (z2p_O Kv) 4 ρ vs w = z2p_P4 Kv ρ vs w := by kernel_rfl
theorem z2p_h4 (Kv : VW) : holdsAt Tryz.prog z2p_E 109 (z2p_O Kv) 4 := holdsAt_cut (.inl (by kernel_rfl)) (fun ρ vs w h => by
  rw [z2p_q4] at h
  unfold z2p_P4 at h
  split at h
  . rw [← z2p_e4]; exact h.out
  . exact h.elim)
theorem z2p_e5 (Kv : VW) (N2 N1 : List Value -> World -> Prop) (ρ : Rho) (f_2 dual_3 : Addr) (fine_6 add_7_c0 : Addr) (one_8 sum_9 : Addr) (i_10 lot_11 : Int) (best_12 x_16 : Addr) (t_30p : Option Addr) (t_30l t_30c : Nat) (t_31 t_32 : Int) (t_40p : Option Addr) (t_40l t_40c : Nat) (t_41 t_42 : Int) (w : World) : z2p_k5d f_2 dual_3 fine_6 add_7_c0 one_8 sum_9 i_10 lot_11 best_12 x_16 ⟨t_30p, t_30l, t_30c⟩ t_31 t_32 ⟨t_40p, t_40l, t_40c⟩ t_41 t_42 (fun f_2' dual_3' fine_6' add_7_c0' one_8' sum_9' i_10' lot_11' best_12' t_30' t_31' t_32' t_40' t_41' t_42' w' => N2 [(Value.pointer (some f_2')), (Value.pointer (some dual_3')), (Value.pointer (some fine_6')), (Value.func (.func 98) #[] #[(Value.pointer (some add_7_c0'))]), (Value.pointer (some one_8')), (Value.pointer (some sum_9')), (Value.int .i64 i_10'), (Value.int .i64 lot_11'), (Value.pointer (some best_12')), (Value.slice t_30'.p t_30'.l t_30'.c), (Value.int .i64 t_31'), (Value.int .i64 t_32'), (Value.slice t_40'.p t_40'.l t_40'.c), (Value.int .i64 t_41'), (Value.int .i64 t_42')] w') (fun f_2' dual_3' fine_6' add_7_c0' one_8' sum_9' t_30' t_31' t_32' w' => N1 [(Value.pointer (some f_2')), (Value.pointer (some dual_3')), (Value.pointer (some fine_6')), (Value.func (.func 98) #[] #[(Value.pointer (some add_7_c0'))]), (Value.pointer (some one_8')), (Value.pointer (some sum_9')), (Value.slice t_30'.p t_30'.l t_30'.c), (Value.int .i64 t_31'), (Value.int .i64 t_32')] w') (Pw.kJ Kv) w = goalAt Tryz.prog z2p_E 109 (z2p_O Kv) 5 (N2 :: N1 :: ρ) [(Value.pointer (some f_2)), (Value.pointer (some dual_3)), (Value.pointer (some fine_6)), (Value.func (.func 98) #[] #[(Value.pointer (some add_7_c0))]), (Value.pointer (some one_8)), (Value.pointer (some sum_9)), (Value.int .i64 i_10), (Value.int .i64 lot_11), (Value.pointer (some best_12)), (Value.pointer (some x_16)), (Value.slice t_30p t_30l t_30c), (Value.int .i64 t_31), (Value.int .i64 t_32), (Value.slice t_40p t_40l t_40c), (Value.int .i64 t_41), (Value.int .i64 t_42)] w := by kernel_rfl
theorem z2p_q5 (Kv : VW) (ρ : Rho) (vs : List Value) (w : World) : labAt (z2p_O Kv) 5 ρ vs w = z2p_P5 Kv ρ vs w := by kernel_rfl
theorem z2p_h5 (Kv : VW) : holdsAt Tryz.prog z2p_E 109 (z2p_O Kv) 5 := holdsAt_cut (.inl (by kernel_rfl)) (fun ρ vs w h => by
  rw [z2p_q5] at h
  unfold z2p_P5 at h
  split at h
  . rw [← z2p_e5]; exact h.out
  . exact h.elim)
theorem z2p_n (Kv : VW) : obAt (z2p_O Kv) 6 = none := by kernel_rfl
theorem z2p_h (Kv : VW) : ∀ k, holdsAt Tryz.prog z2p_E 109 (z2p_O Kv) k := fun k => match k with
  | 0 => z2p_h0 Kv
  | 1 => z2p_h1 Kv
  | 2 => z2p_h2 Kv
  | 3 => z2p_h3 Kv
  | 4 => z2p_h4 Kv
  | 5 => z2p_h5 Kv
  | _k + 6 => holdsAt_ge (z2p_n Kv) (Nat.le_add_left _ _)
theorem z2p_ok : Sound Tryz.prog 83 z2p_S := ⟨Tryz.call83, fun vs w Kv h => by
  unfold z2p_S at h
  split at h
  . have h := h.out
    rw [z2p_e] at h
    exact calls_sound (Γ := z2p_E) progMixed ⟨.inl z2u_ok, .inl z2z_ok, .inl z3k_ok, .inl z1l_ok, .inl z21_ok, .inl z14_ok, trivial⟩ Tryz.func83 (code := z2p_C) (by kernel_rfl) (z2p_A Kv) Kv (holds_all (z2p_h Kv)) (Nat.le_of_ble_eq_true (by kernel_rfl)) h
  . exact h.elim⟩
/-! Cp_points -/
def z1s_b0 (sum_3 : Int) (t_7 : Sl) (t_8 t_9 : Int) (N0 : Int -> Sl -> Int -> Int -> World -> Prop) (K : Pw.T1) (w : World) : Prop :=
  cnd (decide (t_9 < t_8))
    (nz t_7.p fun a10 => (0 <= t_9 /\ t_9 < (t_7.l : Nat)) /\ ∃ x11 : Int, w.cell? (a10.add (t_9.toNat * 4)) = some (Value.int .i64 x11) /\ ∃ x12 : Int, w.cell? ((a10.add (t_9.toNat * 4)).add 1) = some (Value.int .i64 x12) /\ ∃ x13 : Int, w.cell? ((a10.add (t_9.toNat * 4)).add 2) = some (Value.int .i64 x13) /\ ∃ x14 : Int, w.cell? ((a10.add (t_9.toNat * 4)).add 3) = some (Value.int .i64 x14) /\ let w15 := w.alloc (Obj.cells #[(Value.int .i64 0), (Value.int .i64 0), (Value.int .i64 0), (Value.int .i64 0)] 65)
  stN w15 (Addr.mk w.heap.size 0 none) [(Value.int .i64 x11), (Value.int .i64 x12), (Value.int .i64 x13), (Value.int .i64 x14)] fun w16 => ∃ x17 : Int, w16.cell? (Addr.mk w.heap.size 3 none) = some (Value.int .i64 x17) /\ inR .i64 (sum_3 + x17) /\ inR .i64 (t_9 + (1 : Int)) /\ N0 (sum_3 + x17) t_7 t_8 (t_9 + (1 : Int)) w16)
    (K sum_3 w)
def z1s_l0d (sum_3 : Int) (t_7 : Sl) (t_8 t_9 : Int) (K : Pw.T1) (w : World) : Prop :=
  ∃ (I : Int -> Int -> World -> Prop) (μ : Int -> Int -> World -> Nat), I sum_3 t_9 w /\ ∀ (sum_31 t_91 : Int) (w1 : World), I sum_31 t_91 w1 ->
    z1s_b0 sum_31 t_7 t_8 t_91 (fun sum_3' t_7' t_8' t_9' w' => ((t_7' = t_7 /\ t_8' = t_8 /\ True) /\ I sum_3' t_9' w') /\ μ sum_3' t_9' w' < μ sum_31 t_91 w1) K w1
structure z1s_l0 (sum_3 : Int) (t_7 : Sl) (t_8 t_9 : Int) (K : Pw.T1) (w : World) : Prop where
  out : z1s_l0d sum_3 t_7 t_8 t_9 K w
def z1s_sd (f_0_0 f_0_1 f_0_2 : Sl) (f_0_3 f_0_4 : Int) (f_0_5 : Sl) (K : Pw.T1) (w : World) : Prop :=
  let w1 := w.alloc (Obj.cells #[(Value.slice f_0_0.p f_0_0.l f_0_0.c), (Value.slice f_0_1.p f_0_1.l f_0_1.c), (Value.slice f_0_2.p f_0_2.l f_0_2.c), (Value.int .i64 f_0_3), (Value.int .i64 f_0_4), (Value.slice f_0_5.p f_0_5.l f_0_5.c)] 75)
  ∃ x2 : Sl, w1.cell? (Addr.mk w.heap.size 0 none) = some (Value.slice x2.p x2.l x2.c) /\ ∃ x3 : Sl, w1.cell? (Addr.mk w.heap.size 1 none) = some (Value.slice x3.p x3.l x3.c) /\ ∃ x4 : Sl, w1.cell? (Addr.mk w.heap.size 2 none) = some (Value.slice x4.p x4.l x4.c) /\ ∃ x5 : Int, w1.cell? (Addr.mk w.heap.size 3 none) = some (Value.int .i64 x5) /\ ∃ x6 : Int, w1.cell? (Addr.mk w.heap.size 4 none) = some (Value.int .i64 x6) /\ ∃ x7 : Sl, w1.cell? (Addr.mk w.heap.size 5 none) = some (Value.slice x7.p x7.l x7.c) /\ z2o_sh x2 x3 x4 x5 x6 x7 (fun r9 w8 => z1s_l0 (0 : Int) r9 (r9.l : Int) (0 : Int) K w8) w1
structure z1s_sh (f_0_0 f_0_1 f_0_2 : Sl) (f_0_3 f_0_4 : Int) (f_0_5 : Sl) (K : Pw.T1) (w : World) : Prop where
  out : z1s_sd f_0_0 f_0_1 f_0_2 f_0_3 f_0_4 f_0_5 K w
def z1s_P0 (Kv : VW) (ρ : Rho) (vs : List Value) (w : World) : Prop :=
  match ρ, vs with
  | _, [.int .i64 sum_3, .slice t_7p t_7l t_7c, .int .i64 t_8, .int .i64 t_9] => z1s_l0 sum_3 ⟨t_7p, t_7l, t_7c⟩ t_8 t_9 (Pw.kI Kv) w
  | _, _ => False
noncomputable def z1s_S : Pw.Spec := fun vs w Kv =>
  match vs with
  | [.agg ⟨[.slice f_0_0p f_0_0l f_0_0c, .slice f_0_1p f_0_1l f_0_1c, .slice f_0_2p f_0_2l f_0_2c, .int .i64 f_0_3, .int .i64 f_0_4, .slice f_0_5p f_0_5l f_0_5c]⟩] => z1s_sh ⟨f_0_0p, f_0_0l, f_0_0c⟩ ⟨f_0_1p, f_0_1l, f_0_1c⟩ ⟨f_0_2p, f_0_2l, f_0_2c⟩ f_0_3 f_0_4 ⟨f_0_5p, f_0_5l, f_0_5c⟩ (Pw.kI Kv) w
  | _ => False
noncomputable def z1s_E : Pw.Env := [(60, z2o_S)]
noncomputable def z1s_C : Code := (Tryz.f32.body).getD .skip
noncomputable def z1s_A (Kv : VW) : Pw.A :=
  (A.seq (A.reg (Pw.rn 2 RA.done))
   (A.seq (A.reg (RA.run RA.done))
   (A.seq (A.seq (A.reg (Pw.rn 4 RA.done))
   (A.blk (A.loop [3, 7, 8, 9] (z1s_P0 Kv) (A.seq (A.reg (RA.run RA.done))
   (A.seq (A.cond A.leaf
   A.leaf)
   (A.seq (A.blk (A.seq (A.reg (Pw.rn 4 RA.done))
   (A.reg (Pw.rn 5 RA.done))))
   (A.reg (Pw.rn 2 RA.done))))))))
   (A.seq (A.reg (Pw.rn 2 RA.done))
   A.leaf))))
noncomputable def z1s_O (Kv : VW) : List Ob := (obs Tryz.prog z1s_E 19 (z1s_A Kv) z1s_C (fun _ => retQ Tryz.prog Tryz.f32.results Kv))
theorem z1s_e (Kv : VW) (f_0_0p : Option Addr) (f_0_0l f_0_0c : Nat) (f_0_1p : Option Addr) (f_0_1l f_0_1c : Nat) (f_0_2p : Option Addr) (f_0_2l f_0_2c : Nat) (f_0_3 f_0_4 : Int) (f_0_5p : Option Addr) (f_0_5l f_0_5c : Nat) (w : World) : z1s_sd ⟨f_0_0p, f_0_0l, f_0_0c⟩ ⟨f_0_1p, f_0_1l, f_0_1c⟩ ⟨f_0_2p, f_0_2l, f_0_2c⟩ f_0_3 f_0_4 ⟨f_0_5p, f_0_5l, f_0_5c⟩ (Pw.kI Kv) w = W Tryz.prog z1s_E 19 (z1s_A Kv) z1s_C [] (retQ Tryz.prog Tryz.f32.results Kv) [] (startS [(Value.agg #[(Value.slice f_0_0p f_0_0l f_0_0c), (Value.slice f_0_1p f_0_1l f_0_1c), (Value.slice f_0_2p f_0_2l f_0_2c), (Value.int .i64 f_0_3), (Value.int .i64 f_0_4), (Value.slice f_0_5p f_0_5l f_0_5c)])]) w := by kernel_rfl
theorem z1s_e0 (Kv : VW) (N0 : List Value -> World -> Prop) (ρ : Rho) (sum_3 : Int) (t_7p : Option Addr) (t_7l t_7c : Nat) (t_8 t_9 : Int) (w : World) : z1s_b0 sum_3 ⟨t_7p, t_7l, t_7c⟩ t_8 t_9 (fun sum_3' t_7' t_8' t_9' w' => N0 [(Value.int .i64 sum_3'), (Value.slice t_7'.p t_7'.l t_7'.c), (Value.int .i64 t_8'), (Value.int .i64 t_9')] w') (Pw.kI Kv) w = goalAt Tryz.prog z1s_E 19 (z1s_O Kv) 0 (N0 :: ρ) [(Value.int .i64 sum_3), (Value.slice t_7p t_7l t_7c), (Value.int .i64 t_8), (Value.int .i64 t_9)] w := by kernel_rfl
theorem z1s_q0 (Kv : VW) (ρ : Rho) (vs : List Value) (w : World) : labAt (z1s_O Kv) 0 ρ vs w = z1s_P0 Kv ρ vs w := by kernel_rfl
def z1s_I0 (t_70 : Sl) (t_80 : Int) (I : Int -> Int -> World -> Prop) (vs : List Value) (w : World) : Prop :=
  match vs with
  | [.int .i64 sum_3, .slice t_7p t_7l t_7c, .int .i64 t_8, .int .i64 t_9] => (⟨t_7p, t_7l, t_7c⟩ = t_70 /\ t_8 = t_80 /\ True) /\ I sum_3 t_9 w
  | _ => False
def z1s_M0 (μ : Int -> Int -> World -> Nat) (vs : List Value) (w : World) : Nat :=
  match vs with
  | [.int .i64 sum_3, .slice _t_7p _t_7l _t_7c, .int .i64 _t_8, .int .i64 t_9] => μ sum_3 t_9 w
  | _ => 0
theorem z1s_h0 (Kv : VW) : holdsAt Tryz.prog z1s_E 19 (z1s_O Kv) 0 := holdsAt_loop (by kernel_rfl) (fun ρ vs w h => by
  rw [z1s_q0] at h
  unfold z1s_P0 at h
  split at h
  . rename_i ρt sum_3 t_7p t_7l t_7c t_8 t_9
    obtain ⟨I, μ, h0, hr⟩ := h.out
    refine ⟨z1s_I0 ⟨t_7p, t_7l, t_7c⟩ t_8 I, z1s_M0 μ, ⟨⟨rfl, rfl, trivial⟩, h0⟩, fun vs w hI => ?_⟩
    unfold z1s_I0 at hI
    split at hI
    . obtain ⟨⟨h0, h1, _⟩, hI⟩ := hI
      cases h0; cases h1
      rw [← z1s_e0]
      exact hr _ _ _ hI
    . exact hI.elim
  . exact h.elim)
theorem z1s_n (Kv : VW) : obAt (z1s_O Kv) 1 = none := by kernel_rfl
theorem z1s_h (Kv : VW) : ∀ k, holdsAt Tryz.prog z1s_E 19 (z1s_O Kv) k := fun k => match k with
  | 0 => z1s_h0 Kv
  | _k + 1 => holdsAt_ge (z1s_n Kv) (Nat.le_add_left _ _)
theorem z1s_ok : Sound Tryz.prog 32 z1s_S := ⟨Tryz.call32, fun vs w Kv h => by
  unfold z1s_S at h
  split at h
  . have h := h.out
    rw [z1s_e] at h
    exact calls_sound (Γ := z1s_E) progMixed ⟨.inl z2o_ok, trivial⟩ Tryz.func32 (code := z1s_C) (by kernel_rfl) (z1s_A Kv) Kv (holds_all (z1s_h Kv)) (Nat.le_of_ble_eq_true (by kernel_rfl)) h
  . exact h.elim⟩
/-! Cp_worth -/
def z2r_sd (f_0_0 f_0_1 f_0_2 : Sl) (f_0_3 f_0_4 : Int) (f_0_5 : Sl) (K : Pw.T1) (w : World) : Prop :=
  let w1 := w.alloc (Obj.cells #[(Value.slice f_0_0.p f_0_0.l f_0_0.c), (Value.slice f_0_1.p f_0_1.l f_0_1.c), (Value.slice f_0_2.p f_0_2.l f_0_2.c), (Value.int .i64 f_0_3), (Value.int .i64 f_0_4), (Value.slice f_0_5.p f_0_5.l f_0_5.c)] 75)
  let w2 := w1.drew
  ∃ S3 : World -> Prop, S3 w2 /\ ∃ x4 : Sl, (∀ w' : World, S3 w' -> w'.cell? (Addr.mk w.heap.size 0 none) = some (Value.slice x4.p x4.l x4.c)) /\ ∃ x5 : Sl, (∀ w' : World, S3 w' -> w'.cell? (Addr.mk w.heap.size 1 none) = some (Value.slice x5.p x5.l x5.c)) /\ ∃ x6 : Sl, (∀ w' : World, S3 w' -> w'.cell? (Addr.mk w.heap.size 2 none) = some (Value.slice x6.p x6.l x6.c)) /\ ∃ x7 : Int, (∀ w' : World, S3 w' -> w'.cell? (Addr.mk w.heap.size 3 none) = some (Value.int .i64 x7)) /\ ∃ x8 : Int, (∀ w' : World, S3 w' -> w'.cell? (Addr.mk w.heap.size 4 none) = some (Value.int .i64 x8)) /\ ∃ x9 : Sl, (∀ w' : World, S3 w' -> w'.cell? (Addr.mk w.heap.size 5 none) = some (Value.slice x9.p x9.l x9.c)) /\ ∃ x10 : Int, (∀ w' : World, S3 w' -> w'.cell? (Addr.mk w.heap.size 4 none) = some (Value.int .i64 x10)) /\ inR .i64 (x10 + (1 : Int)) /\ ∃ x11 : Sl, (∀ w' : World, S3 w' -> w'.cell? (Addr.mk w.heap.size 0 none) = some (Value.slice x11.p x11.l x11.c)) /\ ∃ x12 : Sl, (∀ w' : World, S3 w' -> w'.cell? (Addr.mk w.heap.size 1 none) = some (Value.slice x12.p x12.l x12.c)) /\ ∃ x13 : Sl, (∀ w' : World, S3 w' -> w'.cell? (Addr.mk w.heap.size 2 none) = some (Value.slice x13.p x13.l x13.c)) /\ ∃ x14 : Int, (∀ w' : World, S3 w' -> w'.cell? (Addr.mk w.heap.size 3 none) = some (Value.int .i64 x14)) /\ ∃ x15 : Int, (∀ w' : World, S3 w' -> w'.cell? (Addr.mk w.heap.size 4 none) = some (Value.int .i64 x15)) /\ ∃ x16 : Sl, (∀ w' : World, S3 w' -> w'.cell? (Addr.mk w.heap.size 5 none) = some (Value.slice x16.p x16.l x16.c)) /\ z1s_sh x4 x5 x6 x7 x8 x9 (fun r18 w17 => S3 w17 /\ inR .i64 (r18 * (x10 + (1 : Int))) /\ z2j_sh x11 x12 x13 x14 x15 x16 (fun r20 w19 => S3 w19 /\ inR .i64 ((r18 * (x10 + (1 : Int))) - r20) /\ K ((r18 * (x10 + (1 : Int))) - r20) w19) w17) w2
structure z2r_sh (f_0_0 f_0_1 f_0_2 : Sl) (f_0_3 f_0_4 : Int) (f_0_5 : Sl) (K : Pw.T1) (w : World) : Prop where
  out : z2r_sd f_0_0 f_0_1 f_0_2 f_0_3 f_0_4 f_0_5 K w
noncomputable def z2r_S : Pw.Spec := fun vs w Kv =>
  match vs with
  | [.agg ⟨[.slice f_0_0p f_0_0l f_0_0c, .slice f_0_1p f_0_1l f_0_1c, .slice f_0_2p f_0_2l f_0_2c, .int .i64 f_0_3, .int .i64 f_0_4, .slice f_0_5p f_0_5l f_0_5c]⟩] => z2r_sh ⟨f_0_0p, f_0_0l, f_0_0c⟩ ⟨f_0_1p, f_0_1l, f_0_1c⟩ ⟨f_0_2p, f_0_2l, f_0_2c⟩ f_0_3 f_0_4 ⟨f_0_5p, f_0_5l, f_0_5c⟩ (Pw.kI Kv) w
  | _ => False
noncomputable def z2r_E : Pw.Env := [(32, z1s_S), (45, z2j_S)]
noncomputable def z2r_C : Code := (Tryz.f69.body).getD .skip
noncomputable def z2r_A (_Kv : VW) : Pw.A :=
  (A.seq (A.reg (Pw.rn 2 RA.done))
   (A.seq (A.drw (DA.pur 0 (DA.pur 2 (DA.pur 3 (DA.pur 4 (DA.pur 5 (DA.pur 7 (DA.eff 1 (DA.pur 6 (DA.eff 8 (DA.pur 9 (DA.pur 10 DA.done))))))))))))
   A.leaf))
noncomputable def z2r_O (Kv : VW) : List Ob := (obs Tryz.prog z2r_E 13 (z2r_A Kv) z2r_C (fun _ => retQ Tryz.prog Tryz.f69.results Kv))
theorem z2r_e (Kv : VW) (f_0_0p : Option Addr) (f_0_0l f_0_0c : Nat) (f_0_1p : Option Addr) (f_0_1l f_0_1c : Nat) (f_0_2p : Option Addr) (f_0_2l f_0_2c : Nat) (f_0_3 f_0_4 : Int) (f_0_5p : Option Addr) (f_0_5l f_0_5c : Nat) (w : World) : z2r_sd ⟨f_0_0p, f_0_0l, f_0_0c⟩ ⟨f_0_1p, f_0_1l, f_0_1c⟩ ⟨f_0_2p, f_0_2l, f_0_2c⟩ f_0_3 f_0_4 ⟨f_0_5p, f_0_5l, f_0_5c⟩ (Pw.kI Kv) w = W Tryz.prog z2r_E 13 (z2r_A Kv) z2r_C [] (retQ Tryz.prog Tryz.f69.results Kv) [] (startS [(Value.agg #[(Value.slice f_0_0p f_0_0l f_0_0c), (Value.slice f_0_1p f_0_1l f_0_1c), (Value.slice f_0_2p f_0_2l f_0_2c), (Value.int .i64 f_0_3), (Value.int .i64 f_0_4), (Value.slice f_0_5p f_0_5l f_0_5c)])]) w := by kernel_rfl
theorem z2r_n (Kv : VW) : obAt (z2r_O Kv) 0 = none := by kernel_rfl
theorem z2r_h (Kv : VW) : ∀ k, holdsAt Tryz.prog z2r_E 13 (z2r_O Kv) k := fun _ => holdsAt_ge (z2r_n Kv) (Nat.zero_le _)
theorem z2r_ok : Sound Tryz.prog 69 z2r_S := ⟨Tryz.call69, fun vs w Kv h => by
  unfold z2r_S at h
  split at h
  . have h := h.out
    rw [z2r_e] at h
    exact calls_sound (Γ := z2r_E) progMixed ⟨.inl z1s_ok, .inl z2j_ok, trivial⟩ Tryz.func69 (code := z2r_C) (by kernel_rfl) (z2r_A Kv) Kv (holds_all (z2r_h Kv)) (Nat.le_of_ble_eq_true (by kernel_rfl)) h
  . exact h.elim⟩
/-! slices_Compare -/
def z0i_b0 (s1_0 s2_1 t_9 : Sl) (t_10 t_11 : Int) (N0 : Sl -> Sl -> Sl -> Int -> Int -> World -> Prop) (K : Pw.T1) (w : World) : Prop :=
  cnd (decide (t_11 < t_10))
    (nz t_9.p fun a1 => (0 <= t_11 /\ t_11 < (t_9.l : Nat)) /\ ∃ x2 : Int, w.cell? (a1.add (t_11.toNat * 1)) = some (Value.int .i64 x2) /\ cnd (decide (t_11 >= (s2_1.l : Int)))
    (K (1 : Int) w)
    (nz s2_1.p fun a3 => (0 <= t_11 /\ t_11 < (s2_1.l : Nat)) /\ ∃ x4 : Int, w.cell? (a3.add (t_11.toNat * 1)) = some (Value.int .i64 x4) /\ z0w_sh x2 x4 (fun r6 w5 => cnd (r6 != (0 : Int))
    (K r6 w5)
    (inR .i64 (t_11 + (1 : Int)) /\ N0 s1_0 s2_1 t_9 t_10 (t_11 + (1 : Int)) w5)) w))
    (cnd (decide ((s1_0.l : Int) < (s2_1.l : Int)))
    (K (-1 : Int) w)
    (K (0 : Int) w))
def z0i_l0d (s1_0 s2_1 t_9 : Sl) (t_10 t_11 : Int) (K : Pw.T1) (w : World) : Prop :=
  ∃ (I : Int -> World -> Prop) (μ : Int -> World -> Nat), I t_11 w /\ ∀ (t_111 : Int) (w1 : World), I t_111 w1 ->
    z0i_b0 s1_0 s2_1 t_9 t_10 t_111 (fun s1_0' s2_1' t_9' t_10' t_11' w' => ((s1_0' = s1_0 /\ s2_1' = s2_1 /\ t_9' = t_9 /\ t_10' = t_10 /\ True) /\ I t_11' w') /\ μ t_11' w' < μ t_111 w1) K w1
structure z0i_l0 (s1_0 s2_1 t_9 : Sl) (t_10 t_11 : Int) (K : Pw.T1) (w : World) : Prop where
  out : z0i_l0d s1_0 s2_1 t_9 t_10 t_11 K w
def z0i_sd (s1_0 s2_1 : Sl) (K : Pw.T1) (w : World) : Prop :=
  z0i_l0 s1_0 s2_1 s1_0 (s1_0.l : Int) (0 : Int) K w
structure z0i_sh (s1_0 s2_1 : Sl) (K : Pw.T1) (w : World) : Prop where
  out : z0i_sd s1_0 s2_1 K w
def z0i_P0 (Kv : VW) (ρ : Rho) (vs : List Value) (w : World) : Prop :=
  match ρ, vs with
  | _, [.slice s1_0p s1_0l s1_0c, .slice s2_1p s2_1l s2_1c, .slice t_9p t_9l t_9c, .int .i64 t_10, .int .i64 t_11] => z0i_l0 ⟨s1_0p, s1_0l, s1_0c⟩ ⟨s2_1p, s2_1l, s2_1c⟩ ⟨t_9p, t_9l, t_9c⟩ t_10 t_11 (Pw.kI Kv) w
  | _, _ => False
noncomputable def z0i_S : Pw.Spec := fun vs w Kv =>
  match vs with
  | [.slice s1_0p s1_0l s1_0c, .slice s2_1p s2_1l s2_1c] => z0i_sh ⟨s1_0p, s1_0l, s1_0c⟩ ⟨s2_1p, s2_1l, s2_1c⟩ (Pw.kI Kv) w
  | _ => False
noncomputable def z0i_E : Pw.Env := [(68, z0w_S)]
noncomputable def z0i_C : Code := (Tryz.f70.body).getD .skip
noncomputable def z0i_A (Kv : VW) : Pw.A :=
  (A.seq (A.reg (RA.run RA.done))
   (A.seq (A.seq (A.reg (Pw.rn 3 RA.done))
   (A.blk (A.loop [0, 1, 9, 10, 11] (z0i_P0 Kv) (A.seq (A.reg (RA.run RA.done))
   (A.seq (A.cond A.leaf
   A.leaf)
   (A.seq (A.blk (A.seq (A.reg (Pw.rn 5 RA.done))
   (A.seq (A.seq (A.reg (Pw.rn 4 RA.done))
   (A.cond (A.seq (A.reg (RA.run RA.done))
   A.leaf)
   A.leaf))
   (A.seq (A.reg (Pw.rn 5 RA.done))
   (A.seq (A.reg (Pw.rn 4 RA.done))
   (A.seq (A.reg (Pw.rn 2 RA.done))
   (A.cond (A.seq (A.reg (Pw.rn 2 RA.done))
   A.leaf)
   A.leaf)))))))
   (A.reg (Pw.rn 2 RA.done))))))))
   (A.seq (A.seq (A.reg (Pw.rn 5 RA.done))
   (A.cond (A.seq (A.reg (RA.run RA.done))
   A.leaf)
   A.leaf))
   (A.seq (A.reg (RA.run RA.done))
   A.leaf))))
noncomputable def z0i_O (Kv : VW) : List Ob := (obs Tryz.prog z0i_E 36 (z0i_A Kv) z0i_C (fun _ => retQ Tryz.prog Tryz.f70.results Kv))
theorem z0i_e (Kv : VW) (s1_0p : Option Addr) (s1_0l s1_0c : Nat) (s2_1p : Option Addr) (s2_1l s2_1c : Nat) (w : World) : z0i_sd ⟨s1_0p, s1_0l, s1_0c⟩ ⟨s2_1p, s2_1l, s2_1c⟩ (Pw.kI Kv) w = W Tryz.prog z0i_E 36 (z0i_A Kv) z0i_C [] (retQ Tryz.prog Tryz.f70.results Kv) [] (startS [(Value.slice s1_0p s1_0l s1_0c), (Value.slice s2_1p s2_1l s2_1c)]) w := by kernel_rfl
theorem z0i_e0 (Kv : VW) (N0 : List Value -> World -> Prop) (ρ : Rho) (s1_0p : Option Addr) (s1_0l s1_0c : Nat) (s2_1p : Option Addr) (s2_1l s2_1c : Nat) (t_9p : Option Addr) (t_9l t_9c : Nat) (t_10 t_11 : Int) (w : World) : z0i_b0 ⟨s1_0p, s1_0l, s1_0c⟩ ⟨s2_1p, s2_1l, s2_1c⟩ ⟨t_9p, t_9l, t_9c⟩ t_10 t_11 (fun s1_0' s2_1' t_9' t_10' t_11' w' => N0 [(Value.slice s1_0'.p s1_0'.l s1_0'.c), (Value.slice s2_1'.p s2_1'.l s2_1'.c), (Value.slice t_9'.p t_9'.l t_9'.c), (Value.int .i64 t_10'), (Value.int .i64 t_11')] w') (Pw.kI Kv) w = goalAt Tryz.prog z0i_E 36 (z0i_O Kv) 0 (N0 :: ρ) [(Value.slice s1_0p s1_0l s1_0c), (Value.slice s2_1p s2_1l s2_1c), (Value.slice t_9p t_9l t_9c), (Value.int .i64 t_10), (Value.int .i64 t_11)] w := by kernel_rfl
theorem z0i_q0 (Kv : VW) (ρ : Rho) (vs : List Value) (w : World) : labAt (z0i_O Kv) 0 ρ vs w = z0i_P0 Kv ρ vs w := by kernel_rfl
def z0i_I0 (s1_00 s2_10 t_90 : Sl) (t_100 : Int) (I : Int -> World -> Prop) (vs : List Value) (w : World) : Prop :=
  match vs with
  | [.slice s1_0p s1_0l s1_0c, .slice s2_1p s2_1l s2_1c, .slice t_9p t_9l t_9c, .int .i64 t_10, .int .i64 t_11] => (⟨s1_0p, s1_0l, s1_0c⟩ = s1_00 /\ ⟨s2_1p, s2_1l, s2_1c⟩ = s2_10 /\ ⟨t_9p, t_9l, t_9c⟩ = t_90 /\ t_10 = t_100 /\ True) /\ I t_11 w
  | _ => False
def z0i_M0 (μ : Int -> World -> Nat) (vs : List Value) (w : World) : Nat :=
  match vs with
  | [.slice _s1_0p _s1_0l _s1_0c, .slice _s2_1p _s2_1l _s2_1c, .slice _t_9p _t_9l _t_9c, .int .i64 _t_10, .int .i64 t_11] => μ t_11 w
  | _ => 0
theorem z0i_h0 (Kv : VW) : holdsAt Tryz.prog z0i_E 36 (z0i_O Kv) 0 := holdsAt_loop (by kernel_rfl) (fun ρ vs w h => by
  rw [z0i_q0] at h
  unfold z0i_P0 at h
  split at h
  . rename_i ρt s1_0p s1_0l s1_0c s2_1p s2_1l s2_1c t_9p t_9l t_9c t_10 t_11
    obtain ⟨I, μ, h0, hr⟩ := h.out
    refine ⟨z0i_I0 ⟨s1_0p, s1_0l, s1_0c⟩ ⟨s2_1p, s2_1l, s2_1c⟩ ⟨t_9p, t_9l, t_9c⟩ t_10 I, z0i_M0 μ, ⟨⟨rfl, rfl, rfl, rfl, trivial⟩, h0⟩, fun vs w hI => ?_⟩
    unfold z0i_I0 at hI
    split at hI
    . obtain ⟨⟨h0, h1, h2, h3, _⟩, hI⟩ := hI
      cases h0; cases h1; cases h2; cases h3
      rw [← z0i_e0]
      exact hr _ _ hI
    . exact hI.elim
  . exact h.elim)
theorem z0i_n (Kv : VW) : obAt (z0i_O Kv) 1 = none := by kernel_rfl
theorem z0i_h (Kv : VW) : ∀ k, holdsAt Tryz.prog z0i_E 36 (z0i_O Kv) k := fun k => match k with
  | 0 => z0i_h0 Kv
  | _k + 1 => holdsAt_ge (z0i_n Kv) (Nat.le_add_left _ _)
theorem z0i_ok : Sound Tryz.prog 70 z0i_S := ⟨Tryz.call70, fun vs w Kv h => by
  unfold z0i_S at h
  split at h
  . have h := h.out
    rw [z0i_e] at h
    exact calls_sound (Γ := z0i_E) progMixed ⟨.inl z0w_ok, trivial⟩ Tryz.func70 (code := z0i_C) (by kernel_rfl) (z0i_A Kv) Kv (holds_all (z0i_h Kv)) (Nat.le_of_ble_eq_true (by kernel_rfl)) h
  . exact h.elim⟩
/-! Cb_better -/
def z24_sd (a_0_0 a_0_1 a_0_2 : Sl) (a_0_3 a_0_4 : Int) (a_0_5 b_1_0 : Sl) (b_1_1 b_1_2 : Sl) (b_1_3 b_1_4 : Int) (b_1_5 : Sl) (K : Pw.T0) (w : World) : Prop :=
  let w1 := w.alloc (Obj.cells #[(Value.slice a_0_0.p a_0_0.l a_0_0.c), (Value.slice a_0_1.p a_0_1.l a_0_1.c), (Value.slice a_0_2.p a_0_2.l a_0_2.c), (Value.int .i64 a_0_3), (Value.int .i64 a_0_4), (Value.slice a_0_5.p a_0_5.l a_0_5.c)] 75)
  let w2 := w1.alloc (Obj.cells #[(Value.slice b_1_0.p b_1_0.l b_1_0.c), (Value.slice b_1_1.p b_1_1.l b_1_1.c), (Value.slice b_1_2.p b_1_2.l b_1_2.c), (Value.int .i64 b_1_3), (Value.int .i64 b_1_4), (Value.slice b_1_5.p b_1_5.l b_1_5.c)] 75)
  let w3 := w2.drew
  ∃ S4 : World -> Prop, S4 w3 /\ ∃ x5 : Sl, (∀ w' : World, S4 w' -> w'.cell? (Addr.mk w.heap.size 0 none) = some (Value.slice x5.p x5.l x5.c)) /\ ∃ x6 : Sl, (∀ w' : World, S4 w' -> w'.cell? (Addr.mk w.heap.size 1 none) = some (Value.slice x6.p x6.l x6.c)) /\ ∃ x7 : Sl, (∀ w' : World, S4 w' -> w'.cell? (Addr.mk w.heap.size 2 none) = some (Value.slice x7.p x7.l x7.c)) /\ ∃ x8 : Int, (∀ w' : World, S4 w' -> w'.cell? (Addr.mk w.heap.size 3 none) = some (Value.int .i64 x8)) /\ ∃ x9 : Int, (∀ w' : World, S4 w' -> w'.cell? (Addr.mk w.heap.size 4 none) = some (Value.int .i64 x9)) /\ ∃ x10 : Sl, (∀ w' : World, S4 w' -> w'.cell? (Addr.mk w.heap.size 5 none) = some (Value.slice x10.p x10.l x10.c)) /\ ∃ x11 : Sl, (∀ w' : World, S4 w' -> w'.cell? (Addr.mk w1.heap.size 0 none) = some (Value.slice x11.p x11.l x11.c)) /\ ∃ x12 : Sl, (∀ w' : World, S4 w' -> w'.cell? (Addr.mk w1.heap.size 1 none) = some (Value.slice x12.p x12.l x12.c)) /\ ∃ x13 : Sl, (∀ w' : World, S4 w' -> w'.cell? (Addr.mk w1.heap.size 2 none) = some (Value.slice x13.p x13.l x13.c)) /\ ∃ x14 : Int, (∀ w' : World, S4 w' -> w'.cell? (Addr.mk w1.heap.size 3 none) = some (Value.int .i64 x14)) /\ ∃ x15 : Int, (∀ w' : World, S4 w' -> w'.cell? (Addr.mk w1.heap.size 4 none) = some (Value.int .i64 x15)) /\ ∃ x16 : Sl, (∀ w' : World, S4 w' -> w'.cell? (Addr.mk w1.heap.size 5 none) = some (Value.slice x16.p x16.l x16.c)) /\ ∃ x17 : Sl, (∀ w' : World, S4 w' -> w'.cell? (Addr.mk w1.heap.size 5 none) = some (Value.slice x17.p x17.l x17.c)) /\ ∃ x18 : Sl, (∀ w' : World, S4 w' -> w'.cell? (Addr.mk w.heap.size 5 none) = some (Value.slice x18.p x18.l x18.c)) /\ z2r_sh x5 x6 x7 x8 x9 x10 (fun r20 w19 => S4 w19 /\ z2r_sh x11 x12 x13 x14 x15 x16 (fun r22 w21 => S4 w21 /\ z0w_sh r20 r22 (fun r24 w23 => S4 w23 /\ z0i_sh x17 x18 (fun r26 w25 => S4 w25 /\ let w27 := w25.alloc (Obj.cells #[(Value.int .i64 r24), (Value.int .i64 r26)] 3)
  S4 w27 /\ z3j_sh (Sl.mk (some (Addr.mk w25.heap.size 0 none)) 2 2) (fun r29 w28 => S4 w28 /\ K (decide (r29 > (0 : Int))) w28) w27) w23) w21) w19) w3
structure z24_sh (a_0_0 a_0_1 a_0_2 : Sl) (a_0_3 a_0_4 : Int) (a_0_5 b_1_0 : Sl) (b_1_1 b_1_2 : Sl) (b_1_3 b_1_4 : Int) (b_1_5 : Sl) (K : Pw.T0) (w : World) : Prop where
  out : z24_sd a_0_0 a_0_1 a_0_2 a_0_3 a_0_4 a_0_5 b_1_0 b_1_1 b_1_2 b_1_3 b_1_4 b_1_5 K w
noncomputable def z24_S : Pw.Spec := fun vs w Kv =>
  match vs with
  | [.agg ⟨[.slice a_0_0p a_0_0l a_0_0c, .slice a_0_1p a_0_1l a_0_1c, .slice a_0_2p a_0_2l a_0_2c, .int .i64 a_0_3, .int .i64 a_0_4, .slice a_0_5p a_0_5l a_0_5c]⟩, .agg ⟨[.slice b_1_0p b_1_0l b_1_0c, .slice b_1_1p b_1_1l b_1_1c, .slice b_1_2p b_1_2l b_1_2c, .int .i64 b_1_3, .int .i64 b_1_4, .slice b_1_5p b_1_5l b_1_5c]⟩] => z24_sh ⟨a_0_0p, a_0_0l, a_0_0c⟩ ⟨a_0_1p, a_0_1l, a_0_1c⟩ ⟨a_0_2p, a_0_2l, a_0_2c⟩ a_0_3 a_0_4 ⟨a_0_5p, a_0_5l, a_0_5c⟩ ⟨b_1_0p, b_1_0l, b_1_0c⟩ ⟨b_1_1p, b_1_1l, b_1_1c⟩ ⟨b_1_2p, b_1_2l, b_1_2c⟩ b_1_3 b_1_4 ⟨b_1_5p, b_1_5l, b_1_5c⟩ (Pw.kB Kv) w
  | _ => False
noncomputable def z24_E : Pw.Env := [(67, z3j_S), (68, z0w_S), (69, z2r_S), (70, z0i_S)]
noncomputable def z24_C : Code := (Tryz.f41.body).getD .skip
noncomputable def z24_A (_Kv : VW) : Pw.A :=
  (A.seq (A.reg (Pw.rn 3 RA.done))
   (A.seq (A.drw (DA.pur 0 (DA.pur 2 (DA.pur 5 (DA.pur 6 (DA.pur 7 (DA.pur 8 (DA.eff 1 (DA.eff 3 (DA.eff 4 (DA.eff 9 (DA.eff 10 (DA.eff 11 (DA.pur 12 (DA.pur 13 DA.done)))))))))))))))
   A.leaf))
noncomputable def z24_O (Kv : VW) : List Ob := (obs Tryz.prog z24_E 18 (z24_A Kv) z24_C (fun _ => retQ Tryz.prog Tryz.f41.results Kv))
theorem z24_e (Kv : VW) (a_0_0p : Option Addr) (a_0_0l a_0_0c : Nat) (a_0_1p : Option Addr) (a_0_1l a_0_1c : Nat) (a_0_2p : Option Addr) (a_0_2l a_0_2c : Nat) (a_0_3 a_0_4 : Int) (a_0_5p : Option Addr) (a_0_5l a_0_5c : Nat) (b_1_0p : Option Addr) (b_1_0l b_1_0c : Nat) (b_1_1p : Option Addr) (b_1_1l b_1_1c : Nat) (b_1_2p : Option Addr) (b_1_2l b_1_2c : Nat) (b_1_3 b_1_4 : Int) (b_1_5p : Option Addr) (b_1_5l b_1_5c : Nat) (w : World) : z24_sd ⟨a_0_0p, a_0_0l, a_0_0c⟩ ⟨a_0_1p, a_0_1l, a_0_1c⟩ ⟨a_0_2p, a_0_2l, a_0_2c⟩ a_0_3 a_0_4 ⟨a_0_5p, a_0_5l, a_0_5c⟩ ⟨b_1_0p, b_1_0l, b_1_0c⟩ ⟨b_1_1p, b_1_1l, b_1_1c⟩ ⟨b_1_2p, b_1_2l, b_1_2c⟩ b_1_3 b_1_4 ⟨b_1_5p, b_1_5l, b_1_5c⟩ (Pw.kB Kv) w = W Tryz.prog z24_E 18 (z24_A Kv) z24_C [] (retQ Tryz.prog Tryz.f41.results Kv) [] (startS [(Value.agg #[(Value.slice a_0_0p a_0_0l a_0_0c), (Value.slice a_0_1p a_0_1l a_0_1c), (Value.slice a_0_2p a_0_2l a_0_2c), (Value.int .i64 a_0_3), (Value.int .i64 a_0_4), (Value.slice a_0_5p a_0_5l a_0_5c)]), (Value.agg #[(Value.slice b_1_0p b_1_0l b_1_0c), (Value.slice b_1_1p b_1_1l b_1_1c), (Value.slice b_1_2p b_1_2l b_1_2c), (Value.int .i64 b_1_3), (Value.int .i64 b_1_4), (Value.slice b_1_5p b_1_5l b_1_5c)])]) w := by kernel_rfl
theorem z24_n (Kv : VW) : obAt (z24_O Kv) 0 = none := by kernel_rfl
theorem z24_h (Kv : VW) : ∀ k, holdsAt Tryz.prog z24_E 18 (z24_O Kv) k := fun _ => holdsAt_ge (z24_n Kv) (Nat.zero_le _)
theorem z24_ok : Sound Tryz.prog 41 z24_S := ⟨Tryz.call41, fun vs w Kv h => by
  unfold z24_S at h
  split at h
  . have h := h.out
    rw [z24_e] at h
    exact calls_sound (Γ := z24_E) progMixed ⟨.inl z3j_ok, .inl z0w_ok, .inl z2r_ok, .inl z0i_ok, trivial⟩ Tryz.func41 (code := z24_C) (by kernel_rfl) (z24_A Kv) Kv (holds_all (z24_h Kv)) (Nat.le_of_ble_eq_true (by kernel_rfl)) h
  . exact h.elim⟩
/-! slices_Clone -/
def z0r_sd (s_0 : Sl) (K : Pw.T4) (w : World) : Prop :=
  cnd s_0.p.isNone
    (K (Sl.mk none 0 0) w)
    (let w1 := w.alloc (Obj.cells #[] 3)
  apS 1 8 [(Value.int .i64 0)] 3 (Sl.mk (some (Addr.mk w.heap.size 0 none)) 0 0) s_0 w1 fun s2 w3 => K s2 w3)
structure z0r_sh (s_0 : Sl) (K : Pw.T4) (w : World) : Prop where
  out : z0r_sd s_0 K w
noncomputable def z0r_S : Pw.Spec := fun vs w Kv =>
  match vs with
  | [.slice s_0p s_0l s_0c] => z0r_sh ⟨s_0p, s_0l, s_0c⟩ (Pw.kS Kv) w
  | _ => False
noncomputable def z0r_E : Pw.Env := []
noncomputable def z0r_C : Code := (Tryz.f58.body).getD .skip
noncomputable def z0r_A (_Kv : VW) : Pw.A :=
  (A.seq (A.reg (RA.run RA.done))
   (A.seq (A.seq (A.reg (Pw.rn 2 RA.done))
   (A.cond (A.seq (A.reg (RA.run RA.done))
   A.leaf)
   A.leaf))
   (A.seq (A.reg (Pw.rn 4 RA.done))
   A.leaf)))
noncomputable def z0r_O (Kv : VW) : List Ob := (obs Tryz.prog z0r_E 8 (z0r_A Kv) z0r_C (fun _ => retQ Tryz.prog Tryz.f58.results Kv))
theorem z0r_e (Kv : VW) (s_0p : Option Addr) (s_0l s_0c : Nat) (w : World) : z0r_sd ⟨s_0p, s_0l, s_0c⟩ (Pw.kS Kv) w = W Tryz.prog z0r_E 8 (z0r_A Kv) z0r_C [] (retQ Tryz.prog Tryz.f58.results Kv) [] (startS [(Value.slice s_0p s_0l s_0c)]) w := by kernel_rfl
theorem z0r_n (Kv : VW) : obAt (z0r_O Kv) 0 = none := by kernel_rfl
theorem z0r_h (Kv : VW) : ∀ k, holdsAt Tryz.prog z0r_E 8 (z0r_O Kv) k := fun _ => holdsAt_ge (z0r_n Kv) (Nat.zero_le _)
theorem z0r_ok : Sound Tryz.prog 58 z0r_S := ⟨Tryz.call58, fun vs w Kv h => by
  unfold z0r_S at h
  split at h
  . have h := h.out
    rw [z0r_e] at h
    exact calls_sound (Γ := z0r_E) progMixed trivial Tryz.func58 (code := z0r_C) (by kernel_rfl) (z0r_A Kv) Kv (holds_all (z0r_h Kv)) (Nat.le_of_ble_eq_true (by kernel_rfl)) h
  . exact h.elim⟩
/-! z0g_1 -/
def z08_b0 (yield_0 : Value) (t_1 : Addr) (i_3 : Int) (N0 : Value -> Addr -> Int -> World -> Prop) (K : Pw.T9) (w : World) : Prop :=
  cnd (decide (i_3 >= (0 : Int)))
    (∃ x2 : Sl, w.cell? t_1 = some (Value.slice x2.p x2.l x2.c) /\ nz x2.p fun a3 => (0 <= i_3 /\ i_3 < (x2.l : Nat)) /\ ∃ x4 : Int, w.cell? (a3.add (i_3.toNat * 1)) = some (Value.int .i64 x4) /\ CallV Tryz.prog yield_0 [(Value.int .i64 i_3), (Value.int .i64 x4)] w fun u5 w6 => ∃ x7 : Bool, u5 = (Value.bool x7) /\ cnd (!x7)
    (K w6)
    (inR .i64 (i_3 - (1 : Int)) /\ N0 yield_0 t_1 (i_3 - (1 : Int)) w6))
    (K w)
def z08_l0d (yield_0 : Value) (t_1 : Addr) (i_3 : Int) (K : Pw.T9) (w : World) : Prop :=
  ∃ (I : Int -> World -> Prop) (μ : Int -> World -> Nat), I i_3 w /\ ∀ (i_31 : Int) (w1 : World), I i_31 w1 ->
    z08_b0 yield_0 t_1 i_31 (fun yield_0' t_1' i_3' w' => ((yield_0' = yield_0 /\ t_1' = t_1 /\ True) /\ I i_3' w') /\ μ i_3' w' < μ i_31 w1) K w1
structure z08_l0 (yield_0 : Value) (t_1 : Addr) (i_3 : Int) (K : Pw.T9) (w : World) : Prop where
  out : z08_l0d yield_0 t_1 i_3 K w
def z08_sd (yield_0 : Value) (t_1 : Addr) (K : Pw.T9) (w : World) : Prop :=
  ∃ x1 : Sl, w.cell? t_1 = some (Value.slice x1.p x1.l x1.c) /\ inR .i64 ((x1.l : Int) - (1 : Int)) /\ z08_l0 yield_0 t_1 ((x1.l : Int) - (1 : Int)) K w
structure z08_sh (yield_0 : Value) (t_1 : Addr) (K : Pw.T9) (w : World) : Prop where
  out : z08_sd yield_0 t_1 K w
def z08_P0 (Kv : VW) (ρ : Rho) (vs : List Value) (w : World) : Prop :=
  match ρ, vs with
  | _, [yield_0, .pointer (some t_1), .int .i64 i_3] => z08_l0 yield_0 t_1 i_3 (fun w' => Kv (Value.tuple #[]) w') w
  | _, _ => False
noncomputable def z08_S : Pw.Spec := fun vs w Kv =>
  match vs with
  | [yield_0, .pointer (some t_1)] => z08_sh yield_0 t_1 (fun w' => Kv (Value.tuple #[]) w') w
  | _ => False
noncomputable def z08_E : Pw.Env := []
noncomputable def z08_C : Code := (Tryz.f84.body).getD .skip
noncomputable def z08_A (Kv : VW) : Pw.A :=
  (A.seq (A.reg (Pw.rn 4 RA.done))
   (A.blk (A.loop [0, 1, 3] (z08_P0 Kv) (A.seq (A.seq (A.reg (Pw.rn 2 RA.done))
   (A.cond A.leaf
   A.leaf))
   (A.seq (A.blk (A.seq (A.reg (Pw.rn 6 (RA.dyn (Value.bool false) (RA.run RA.done))))
   (A.cond A.leaf
   A.leaf)))
   (A.reg (Pw.rn 3 RA.done)))))))
noncomputable def z08_O (Kv : VW) : List Ob := (obs Tryz.prog z08_E 19 (z08_A Kv) z08_C (fun _ => retQ Tryz.prog Tryz.f84.results Kv))
theorem z08_e (Kv : VW) (yield_0 : Value) (t_1 : Addr) (w : World) : z08_sd yield_0 t_1 (fun w' => Kv (Value.tuple #[]) w') w = W Tryz.prog z08_E 19 (z08_A Kv) z08_C [] (retQ Tryz.prog Tryz.f84.results Kv) [] (startS [yield_0, (Value.pointer (some t_1))]) w := by kernel_rfl
theorem z08_e0 (Kv : VW) (N0 : List Value -> World -> Prop) (ρ : Rho) (yield_0 : Value) (t_1 : Addr) (i_3 : Int) (w : World) : z08_b0 yield_0 t_1 i_3 (fun yield_0' t_1' i_3' w' => N0 [yield_0', (Value.pointer (some t_1')), (Value.int .i64 i_3')] w') (fun w' => Kv (Value.tuple #[]) w') w = goalAt Tryz.prog z08_E 19 (z08_O Kv) 0 (N0 :: ρ) [yield_0, (Value.pointer (some t_1)), (Value.int .i64 i_3)] w := by kernel_rfl
theorem z08_q0 (Kv : VW) (ρ : Rho) (vs : List Value) (w : World) : labAt (z08_O Kv) 0 ρ vs w = z08_P0 Kv ρ vs w := by kernel_rfl
def z08_I0 (yield_00 : Value) (t_10 : Addr) (I : Int -> World -> Prop) (vs : List Value) (w : World) : Prop :=
  match vs with
  | [yield_0, .pointer (some t_1), .int .i64 i_3] => (yield_0 = yield_00 /\ t_1 = t_10 /\ True) /\ I i_3 w
  | _ => False
def z08_M0 (μ : Int -> World -> Nat) (vs : List Value) (w : World) : Nat :=
  match vs with
  | [_yield_0, .pointer (some _t_1), .int .i64 i_3] => μ i_3 w
  | _ => 0
theorem z08_h0 (Kv : VW) : holdsAt Tryz.prog z08_E 19 (z08_O Kv) 0 := holdsAt_loop (by kernel_rfl) (fun ρ vs w h => by
  rw [z08_q0] at h
  unfold z08_P0 at h
  split at h
  . rename_i ρt yield_0 t_1 i_3
    obtain ⟨I, μ, h0, hr⟩ := h.out
    refine ⟨z08_I0 yield_0 t_1 I, z08_M0 μ, ⟨⟨rfl, rfl, trivial⟩, h0⟩, fun vs w hI => ?_⟩
    unfold z08_I0 at hI
    split at hI
    . obtain ⟨⟨h0, h1, _⟩, hI⟩ := hI
      cases h0; cases h1
      rw [← z08_e0]
      exact hr _ _ hI
    . exact hI.elim
  . exact h.elim)
theorem z08_n (Kv : VW) : obAt (z08_O Kv) 1 = none := by kernel_rfl
theorem z08_h (Kv : VW) : ∀ k, holdsAt Tryz.prog z08_E 19 (z08_O Kv) k := fun k => match k with
  | 0 => z08_h0 Kv
  | _k + 1 => holdsAt_ge (z08_n Kv) (Nat.le_add_left _ _)
theorem z08_ok : Sound Tryz.prog 84 z08_S := ⟨Tryz.call84, fun vs w Kv h => by
  unfold z08_S at h
  split at h
  . have h := h.out
    rw [z08_e] at h
    exact calls_sound (Γ := z08_E) progMixed trivial Tryz.func84 (code := z08_C) (by kernel_rfl) (z08_A Kv) Kv (holds_all (z08_h Kv)) (Nat.le_of_ble_eq_true (by kernel_rfl)) h
  . exact h.elim⟩
/-! slices_Backward -/
def z0g_sd (s_0 : Sl) (K : Value -> World -> Prop) (w : World) : Prop :=
  let w1 := w.alloc (Obj.cells #[(Value.slice s_0.p s_0.l s_0.c)] 22)
  K (Value.func (.func 84) #[] #[(Value.pointer (some (Addr.mk w.heap.size 0 none)))]) w1
structure z0g_sh (s_0 : Sl) (K : Value -> World -> Prop) (w : World) : Prop where
  out : z0g_sd s_0 K w
noncomputable def z0g_S : Pw.Spec := fun vs w Kv =>
  match vs with
  | [.slice s_0p s_0l s_0c] => z0g_sh ⟨s_0p, s_0l, s_0c⟩ (fun r0 w' => Kv r0 w') w
  | _ => False
noncomputable def z0g_E : Pw.Env := []
noncomputable def z0g_C : Code := (Tryz.f59.body).getD .skip
noncomputable def z0g_A (_Kv : VW) : Pw.A :=
  (A.seq (A.reg (Pw.rn 2 RA.done))
   (A.seq (A.reg (Pw.rn 2 RA.done))
   A.leaf))
noncomputable def z0g_O (Kv : VW) : List Ob := (obs Tryz.prog z0g_E 4 (z0g_A Kv) z0g_C (fun _ => retQ Tryz.prog Tryz.f59.results Kv))
theorem z0g_e (Kv : VW) (s_0p : Option Addr) (s_0l s_0c : Nat) (w : World) : z0g_sd ⟨s_0p, s_0l, s_0c⟩ (fun r0 w' => Kv r0 w') w = W Tryz.prog z0g_E 4 (z0g_A Kv) z0g_C [] (retQ Tryz.prog Tryz.f59.results Kv) [] (startS [(Value.slice s_0p s_0l s_0c)]) w := by kernel_rfl
theorem z0g_n (Kv : VW) : obAt (z0g_O Kv) 0 = none := by kernel_rfl
theorem z0g_h (Kv : VW) : ∀ k, holdsAt Tryz.prog z0g_E 4 (z0g_O Kv) k := fun _ => holdsAt_ge (z0g_n Kv) (Nat.zero_le _)
theorem z0g_ok : Sound Tryz.prog 59 z0g_S := ⟨Tryz.call59, fun vs w Kv h => by
  unfold z0g_S at h
  split at h
  . have h := h.out
    rw [z0g_e] at h
    exact calls_sound (Γ := z0g_E) progMixed trivial Tryz.func59 (code := z0g_C) (by kernel_rfl) (z0g_A Kv) Kv (holds_all (z0g_h Kv)) (Nat.le_of_ble_eq_true (by kernel_rfl)) h
  . exact h.elim⟩
/-! Cp_fits -/
def z31_b0 (f_1 : Addr) (t_14 : Sl) (t_15 t_16 : Int) (N0 : Addr -> Sl -> Int -> Int -> World -> Prop) (K : Pw.T0) (w : World) : Prop :=
  cnd (decide (t_16 < t_15))
    (nz t_14.p fun a5 => (0 <= t_16 /\ t_16 < (t_14.l : Nat)) /\ ∃ x6 : Int, w.cell? (a5.add (t_16.toNat * 1)) = some (Value.int .i64 x6) /\ let w7 := w.drew
  cnd (decide (x6 < (-1 : Int)))
    (K false w7)
    (∃ x8 : Sl, w7.cell? (f_1.add 1) = some (Value.slice x8.p x8.l x8.c) /\ cnd (decide (x6 >= (x8.l : Int)))
    (K false w7)
    (cnd (decide (x6 >= (0 : Int)))
    (∃ x9 : Sl, w7.cell? (f_1.add 1) = some (Value.slice x9.p x9.l x9.c) /\ nz x9.p fun a10 => (0 <= x6 /\ x6 < (x9.l : Nat)) /\ ∃ x11 : Int, w7.cell? (a10.add (x6.toNat * 4)) = some (Value.int .i64 x11) /\ ∃ x12 : Sl, w7.cell? f_1 = some (Value.slice x12.p x12.l x12.c) /\ nz x12.p fun a13 => (0 <= t_16 /\ t_16 < (x12.l : Nat)) /\ ∃ x14 : Int, w7.cell? (a13.add (t_16.toNat * 1)) = some (Value.int .i64 x14) /\ cnd (x11 != x14)
    (K false w7)
    (inR .i64 (t_16 + (1 : Int)) /\ N0 f_1 t_14 t_15 (t_16 + (1 : Int)) w7))
    (inR .i64 (t_16 + (1 : Int)) /\ N0 f_1 t_14 t_15 (t_16 + (1 : Int)) w7))))
    (K true w)
def z31_l0d (f_1 : Addr) (t_14 : Sl) (t_15 t_16 : Int) (K : Pw.T0) (w : World) : Prop :=
  ∃ (I : Int -> World -> Prop) (μ : Int -> World -> Nat), I t_16 w /\ ∀ (t_161 : Int) (w1 : World), I t_161 w1 ->
    z31_b0 f_1 t_14 t_15 t_161 (fun f_1' t_14' t_15' t_16' w' => ((f_1' = f_1 /\ t_14' = t_14 /\ t_15' = t_15 /\ True) /\ I t_16' w') /\ μ t_16' w' < μ t_161 w1) K w1
structure z31_l0 (f_1 : Addr) (t_14 : Sl) (t_15 t_16 : Int) (K : Pw.T0) (w : World) : Prop where
  out : z31_l0d f_1 t_14 t_15 t_16 K w
def z31_sd (f_0_0 f_0_1 f_0_2 : Sl) (f_0_3 f_0_4 : Int) (f_0_5 : Sl) (K : Pw.T0) (w : World) : Prop :=
  let w1 := w.alloc (Obj.cells #[(Value.slice f_0_0.p f_0_0.l f_0_0.c), (Value.slice f_0_1.p f_0_1.l f_0_1.c), (Value.slice f_0_2.p f_0_2.l f_0_2.c), (Value.int .i64 f_0_3), (Value.int .i64 f_0_4), (Value.slice f_0_5.p f_0_5.l f_0_5.c)] 75)
  ∃ x2 : Sl, w1.cell? (Addr.mk w.heap.size 5 none) = some (Value.slice x2.p x2.l x2.c) /\ ∃ x3 : Sl, w1.cell? (Addr.mk w.heap.size 0 none) = some (Value.slice x3.p x3.l x3.c) /\ cnd ((x2.l : Int) != (x3.l : Int))
    (K false w1)
    (∃ x4 : Sl, w1.cell? (Addr.mk w.heap.size 5 none) = some (Value.slice x4.p x4.l x4.c) /\ z31_l0 (Addr.mk w.heap.size 0 none) x4 (x4.l : Int) (0 : Int) K w1)
structure z31_sh (f_0_0 f_0_1 f_0_2 : Sl) (f_0_3 f_0_4 : Int) (f_0_5 : Sl) (K : Pw.T0) (w : World) : Prop where
  out : z31_sd f_0_0 f_0_1 f_0_2 f_0_3 f_0_4 f_0_5 K w
def z31_P0 (Kv : VW) (ρ : Rho) (vs : List Value) (w : World) : Prop :=
  match ρ, vs with
  | _, [.pointer (some f_1), .slice t_14p t_14l t_14c, .int .i64 t_15, .int .i64 t_16] => z31_l0 f_1 ⟨t_14p, t_14l, t_14c⟩ t_15 t_16 (Pw.kB Kv) w
  | _, _ => False
noncomputable def z31_S : Pw.Spec := fun vs w Kv =>
  match vs with
  | [.agg ⟨[.slice f_0_0p f_0_0l f_0_0c, .slice f_0_1p f_0_1l f_0_1c, .slice f_0_2p f_0_2l f_0_2c, .int .i64 f_0_3, .int .i64 f_0_4, .slice f_0_5p f_0_5l f_0_5c]⟩] => z31_sh ⟨f_0_0p, f_0_0l, f_0_0c⟩ ⟨f_0_1p, f_0_1l, f_0_1c⟩ ⟨f_0_2p, f_0_2l, f_0_2c⟩ f_0_3 f_0_4 ⟨f_0_5p, f_0_5l, f_0_5c⟩ (Pw.kB Kv) w
  | _ => False
noncomputable def z31_E : Pw.Env := []
noncomputable def z31_C : Code := (Tryz.f44.body).getD .skip
noncomputable def z31_A (Kv : VW) : Pw.A :=
  (A.seq (A.reg (Pw.rn 2 RA.done))
   (A.seq (A.seq (A.reg (Pw.rn 8 RA.done))
   (A.cond (A.seq (A.reg (RA.run RA.done))
   A.leaf)
   A.leaf))
   (A.seq (A.seq (A.reg (Pw.rn 4 RA.done))
   (A.blk (A.loop [1, 14, 15, 16] (z31_P0 Kv) (A.seq (A.reg (RA.run RA.done))
   (A.seq (A.cond A.leaf
   A.leaf)
   (A.seq (A.blk (A.seq (A.reg (Pw.rn 5 RA.done))
   (A.seq (A.drp (DA.pur 0 (DA.pur 1 (DA.pur 2 (DA.spl 23 (DA.skp 3 (DA.skp 4 (DA.skp 5 (DA.skp 6 (DA.skp 7 (DA.skp 8 (DA.pur 9 (DA.pur 10 (DA.skp 11 (DA.skp 12 (DA.skp 13 (DA.skp 14 (DA.skp 15 (DA.skp 16 (DA.skp 17 (DA.skp 18 (DA.skp 19 (DA.skp 20 (DA.skp 21 (DA.skp 22 (DA.skp 23 (DA.skp 24 (DA.skp 25 (DA.skp 26 (DA.skp 27 (DA.skp 28 (DA.pur 29 DA.done))))))))))))))))))))))))))) (DA.pur 3 (DA.pur 4 (DA.pur 5 (DA.pur 6 (DA.pur 7 (DA.pur 8 (DA.pur 9 (DA.pur 10 (DA.spl 31 (DA.skp 11 (DA.skp 12 (DA.skp 13 (DA.skp 14 (DA.skp 15 (DA.skp 16 (DA.skp 17 (DA.skp 18 (DA.skp 19 (DA.skp 20 (DA.skp 21 (DA.skp 22 (DA.skp 23 (DA.skp 24 (DA.skp 25 (DA.skp 26 (DA.skp 27 (DA.skp 28 (DA.pur 29 DA.done))))))))))))))))))) (DA.pur 11 (DA.pur 12 (DA.pur 13 (DA.spl 34 (DA.pur 14 (DA.pur 15 (DA.pur 16 (DA.pur 17 (DA.pur 18 (DA.pur 19 (DA.pur 20 (DA.pur 21 (DA.pur 22 (DA.pur 23 (DA.pur 24 (DA.pur 25 (DA.pur 26 (DA.pur 27 (DA.pur 28 (DA.pur 29 DA.done)))))))))))))))) (DA.skp 14 (DA.skp 15 (DA.skp 16 (DA.skp 17 (DA.skp 18 (DA.skp 19 (DA.skp 20 (DA.skp 21 (DA.skp 22 (DA.skp 23 (DA.skp 24 (DA.skp 25 (DA.skp 26 (DA.skp 27 (DA.pur 28 (DA.pur 29 DA.done))))))))))))))))))))))))))))))))))
   (A.cond (A.seq (A.reg (RA.run RA.done))
   A.leaf)
   A.leaf))))
   (A.reg (Pw.rn 2 RA.done))))))))
   (A.seq (A.reg (RA.run RA.done))
   A.leaf))))
noncomputable def z31_O (Kv : VW) : List Ob := (obs Tryz.prog z31_E 52 (z31_A Kv) z31_C (fun _ => retQ Tryz.prog Tryz.f44.results Kv))
theorem z31_e (Kv : VW) (f_0_0p : Option Addr) (f_0_0l f_0_0c : Nat) (f_0_1p : Option Addr) (f_0_1l f_0_1c : Nat) (f_0_2p : Option Addr) (f_0_2l f_0_2c : Nat) (f_0_3 f_0_4 : Int) (f_0_5p : Option Addr) (f_0_5l f_0_5c : Nat) (w : World) : z31_sd ⟨f_0_0p, f_0_0l, f_0_0c⟩ ⟨f_0_1p, f_0_1l, f_0_1c⟩ ⟨f_0_2p, f_0_2l, f_0_2c⟩ f_0_3 f_0_4 ⟨f_0_5p, f_0_5l, f_0_5c⟩ (Pw.kB Kv) w = W Tryz.prog z31_E 52 (z31_A Kv) z31_C [] (retQ Tryz.prog Tryz.f44.results Kv) [] (startS [(Value.agg #[(Value.slice f_0_0p f_0_0l f_0_0c), (Value.slice f_0_1p f_0_1l f_0_1c), (Value.slice f_0_2p f_0_2l f_0_2c), (Value.int .i64 f_0_3), (Value.int .i64 f_0_4), (Value.slice f_0_5p f_0_5l f_0_5c)])]) w := by kernel_rfl
theorem z31_e0 (Kv : VW) (N0 : List Value -> World -> Prop) (ρ : Rho) (f_1 : Addr) (t_14p : Option Addr) (t_14l t_14c : Nat) (t_15 t_16 : Int) (w : World) : z31_b0 f_1 ⟨t_14p, t_14l, t_14c⟩ t_15 t_16 (fun f_1' t_14' t_15' t_16' w' => N0 [(Value.pointer (some f_1')), (Value.slice t_14'.p t_14'.l t_14'.c), (Value.int .i64 t_15'), (Value.int .i64 t_16')] w') (Pw.kB Kv) w = goalAt Tryz.prog z31_E 52 (z31_O Kv) 0 (N0 :: ρ) [(Value.pointer (some f_1)), (Value.slice t_14p t_14l t_14c), (Value.int .i64 t_15), (Value.int .i64 t_16)] w := by kernel_rfl
theorem z31_q0 (Kv : VW) (ρ : Rho) (vs : List Value) (w : World) : labAt (z31_O Kv) 0 ρ vs w = z31_P0 Kv ρ vs w := by kernel_rfl
def z31_I0 (f_10 : Addr) (t_140 : Sl) (t_150 : Int) (I : Int -> World -> Prop) (vs : List Value) (w : World) : Prop :=
  match vs with
  | [.pointer (some f_1), .slice t_14p t_14l t_14c, .int .i64 t_15, .int .i64 t_16] => (f_1 = f_10 /\ ⟨t_14p, t_14l, t_14c⟩ = t_140 /\ t_15 = t_150 /\ True) /\ I t_16 w
  | _ => False
def z31_M0 (μ : Int -> World -> Nat) (vs : List Value) (w : World) : Nat :=
  match vs with
  | [.pointer (some _f_1), .slice _t_14p _t_14l _t_14c, .int .i64 _t_15, .int .i64 t_16] => μ t_16 w
  | _ => 0
theorem z31_h0 (Kv : VW) : holdsAt Tryz.prog z31_E 52 (z31_O Kv) 0 := holdsAt_loop (by kernel_rfl) (fun ρ vs w h => by
  rw [z31_q0] at h
  unfold z31_P0 at h
  split at h
  . rename_i ρt f_1 t_14p t_14l t_14c t_15 t_16
    obtain ⟨I, μ, h0, hr⟩ := h.out
    refine ⟨z31_I0 f_1 ⟨t_14p, t_14l, t_14c⟩ t_15 I, z31_M0 μ, ⟨⟨rfl, rfl, rfl, trivial⟩, h0⟩, fun vs w hI => ?_⟩
    unfold z31_I0 at hI
    split at hI
    . obtain ⟨⟨h0, h1, h2, _⟩, hI⟩ := hI
      cases h0; cases h1; cases h2
      rw [← z31_e0]
      exact hr _ _ hI
    . exact hI.elim
  . exact h.elim)
theorem z31_n (Kv : VW) : obAt (z31_O Kv) 1 = none := by kernel_rfl
theorem z31_h (Kv : VW) : ∀ k, holdsAt Tryz.prog z31_E 52 (z31_O Kv) k := fun k => match k with
  | 0 => z31_h0 Kv
  | _k + 1 => holdsAt_ge (z31_n Kv) (Nat.le_add_left _ _)
theorem z31_ok : Sound Tryz.prog 44 z31_S := ⟨Tryz.call44, fun vs w Kv h => by
  unfold z31_S at h
  split at h
  . have h := h.out
    rw [z31_e] at h
    exact calls_sound (Γ := z31_E) progMixed trivial Tryz.func44 (code := z31_C) (by kernel_rfl) (z31_A Kv) Kv (holds_all (z31_h Kv)) (Nat.le_of_ble_eq_true (by kernel_rfl)) h
  . exact h.elim⟩
/-! Cp_permitted -/
def z0q_sd (f_0_0 f_0_1 f_0_2 : Sl) (f_0_3 f_0_4 : Int) (f_0_5 : Sl) (K : Pw.T0) (w : World) : Prop :=
  let w1 := w.alloc (Obj.cells #[(Value.slice f_0_0.p f_0_0.l f_0_0.c), (Value.slice f_0_1.p f_0_1.l f_0_1.c), (Value.slice f_0_2.p f_0_2.l f_0_2.c), (Value.int .i64 f_0_3), (Value.int .i64 f_0_4), (Value.slice f_0_5.p f_0_5.l f_0_5.c)] 75)
  let w2 := w1.drew
  ∃ S3 : World -> Prop, S3 w2 /\ ∃ x4 : Sl, (∀ w' : World, S3 w' -> w'.cell? (Addr.mk w.heap.size 0 none) = some (Value.slice x4.p x4.l x4.c)) /\ ∃ x5 : Sl, (∀ w' : World, S3 w' -> w'.cell? (Addr.mk w.heap.size 1 none) = some (Value.slice x5.p x5.l x5.c)) /\ ∃ x6 : Sl, (∀ w' : World, S3 w' -> w'.cell? (Addr.mk w.heap.size 2 none) = some (Value.slice x6.p x6.l x6.c)) /\ ∃ x7 : Int, (∀ w' : World, S3 w' -> w'.cell? (Addr.mk w.heap.size 3 none) = some (Value.int .i64 x7)) /\ ∃ x8 : Int, (∀ w' : World, S3 w' -> w'.cell? (Addr.mk w.heap.size 4 none) = some (Value.int .i64 x8)) /\ ∃ x9 : Sl, (∀ w' : World, S3 w' -> w'.cell? (Addr.mk w.heap.size 5 none) = some (Value.slice x9.p x9.l x9.c)) /\ z31_sh x4 x5 x6 x7 x8 x9 (fun r11 w10 => S3 w10 /\ cnd r11
    (∃ x12 : Sl, (∀ w' : World, S3 w' -> w'.cell? (Addr.mk w.heap.size 0 none) = some (Value.slice x12.p x12.l x12.c)) /\ ∃ x13 : Sl, (∀ w' : World, S3 w' -> w'.cell? (Addr.mk w.heap.size 1 none) = some (Value.slice x13.p x13.l x13.c)) /\ ∃ x14 : Sl, (∀ w' : World, S3 w' -> w'.cell? (Addr.mk w.heap.size 2 none) = some (Value.slice x14.p x14.l x14.c)) /\ ∃ x15 : Int, (∀ w' : World, S3 w' -> w'.cell? (Addr.mk w.heap.size 3 none) = some (Value.int .i64 x15)) /\ ∃ x16 : Int, (∀ w' : World, S3 w' -> w'.cell? (Addr.mk w.heap.size 4 none) = some (Value.int .i64 x16)) /\ ∃ x17 : Sl, (∀ w' : World, S3 w' -> w'.cell? (Addr.mk w.heap.size 5 none) = some (Value.slice x17.p x17.l x17.c)) /\ ∃ x18 : Int, (∀ w' : World, S3 w' -> w'.cell? (Addr.mk w.heap.size 4 none) = some (Value.int .i64 x18)) /\ z2j_sh x12 x13 x14 x15 x16 x17 (fun r20 w19 => S3 w19 /\ cnd (decide (r20 <= x18))
    (∃ x21 : Sl, (∀ w' : World, S3 w' -> w'.cell? (Addr.mk w.heap.size 0 none) = some (Value.slice x21.p x21.l x21.c)) /\ ∃ x22 : Sl, (∀ w' : World, S3 w' -> w'.cell? (Addr.mk w.heap.size 1 none) = some (Value.slice x22.p x22.l x22.c)) /\ ∃ x23 : Sl, (∀ w' : World, S3 w' -> w'.cell? (Addr.mk w.heap.size 2 none) = some (Value.slice x23.p x23.l x23.c)) /\ ∃ x24 : Int, (∀ w' : World, S3 w' -> w'.cell? (Addr.mk w.heap.size 3 none) = some (Value.int .i64 x24)) /\ ∃ x25 : Int, (∀ w' : World, S3 w' -> w'.cell? (Addr.mk w.heap.size 4 none) = some (Value.int .i64 x25)) /\ ∃ x26 : Sl, (∀ w' : World, S3 w' -> w'.cell? (Addr.mk w.heap.size 5 none) = some (Value.slice x26.p x26.l x26.c)) /\ z1c_sh x21 x22 x23 x24 x25 x26 (fun r28 w27 => S3 w27 /\ K (!r28) w27) w19)
    (K false w19)) w10)
    (K false w10)) w2
structure z0q_sh (f_0_0 f_0_1 f_0_2 : Sl) (f_0_3 f_0_4 : Int) (f_0_5 : Sl) (K : Pw.T0) (w : World) : Prop where
  out : z0q_sd f_0_0 f_0_1 f_0_2 f_0_3 f_0_4 f_0_5 K w
noncomputable def z0q_S : Pw.Spec := fun vs w Kv =>
  match vs with
  | [.agg ⟨[.slice f_0_0p f_0_0l f_0_0c, .slice f_0_1p f_0_1l f_0_1c, .slice f_0_2p f_0_2l f_0_2c, .int .i64 f_0_3, .int .i64 f_0_4, .slice f_0_5p f_0_5l f_0_5c]⟩] => z0q_sh ⟨f_0_0p, f_0_0l, f_0_0c⟩ ⟨f_0_1p, f_0_1l, f_0_1c⟩ ⟨f_0_2p, f_0_2l, f_0_2c⟩ f_0_3 f_0_4 ⟨f_0_5p, f_0_5l, f_0_5c⟩ (Pw.kB Kv) w
  | _ => False
noncomputable def z0q_E : Pw.Env := [(44, z31_S), (45, z2j_S), (66, z1c_S)]
noncomputable def z0q_C : Code := (Tryz.f40.body).getD .skip
noncomputable def z0q_A (_Kv : VW) : Pw.A :=
  (A.seq (A.reg (Pw.rn 2 RA.done))
   (A.seq (A.drw (DA.pur 0 (DA.eff 1 (DA.pur 2 (DA.spl 5 (DA.pur 3 (DA.pur 5 (DA.pur 6 (DA.pur 7 (DA.eff 4 (DA.pur 8 (DA.pur 9 (DA.pur 10 (DA.spl 13 (DA.pur 11 (DA.eff 12 (DA.pur 13 (DA.pur 14 (DA.pur 15 DA.done))))) (DA.skp 11 (DA.skp 12 (DA.skp 13 (DA.pur 14 (DA.pur 15 DA.done)))))))))))))) (DA.skp 3 (DA.skp 5 (DA.skp 6 (DA.skp 7 (DA.skp 4 (DA.skp 8 (DA.pur 9 (DA.pur 10 (DA.skp 11 (DA.skp 12 (DA.skp 13 (DA.pur 14 (DA.pur 15 DA.done))))))))))))))))))
   A.leaf))
noncomputable def z0q_O (Kv : VW) : List Ob := (obs Tryz.prog z0q_E 18 (z0q_A Kv) z0q_C (fun _ => retQ Tryz.prog Tryz.f40.results Kv))
theorem z0q_e (Kv : VW) (f_0_0p : Option Addr) (f_0_0l f_0_0c : Nat) (f_0_1p : Option Addr) (f_0_1l f_0_1c : Nat) (f_0_2p : Option Addr) (f_0_2l f_0_2c : Nat) (f_0_3 f_0_4 : Int) (f_0_5p : Option Addr) (f_0_5l f_0_5c : Nat) (w : World) : z0q_sd ⟨f_0_0p, f_0_0l, f_0_0c⟩ ⟨f_0_1p, f_0_1l, f_0_1c⟩ ⟨f_0_2p, f_0_2l, f_0_2c⟩ f_0_3 f_0_4 ⟨f_0_5p, f_0_5l, f_0_5c⟩ (Pw.kB Kv) w = W Tryz.prog z0q_E 18 (z0q_A Kv) z0q_C [] (retQ Tryz.prog Tryz.f40.results Kv) [] (startS [(Value.agg #[(Value.slice f_0_0p f_0_0l f_0_0c), (Value.slice f_0_1p f_0_1l f_0_1c), (Value.slice f_0_2p f_0_2l f_0_2c), (Value.int .i64 f_0_3), (Value.int .i64 f_0_4), (Value.slice f_0_5p f_0_5l f_0_5c)])]) w := by kernel_rfl
theorem z0q_n (Kv : VW) : obAt (z0q_O Kv) 0 = none := by kernel_rfl
theorem z0q_h (Kv : VW) : ∀ k, holdsAt Tryz.prog z0q_E 18 (z0q_O Kv) k := fun _ => holdsAt_ge (z0q_n Kv) (Nat.zero_le _)
theorem z0q_ok : Sound Tryz.prog 40 z0q_S := ⟨Tryz.call40, fun vs w Kv h => by
  unfold z0q_S at h
  split at h
  . have h := h.out
    rw [z0q_e] at h
    exact calls_sound (Γ := z0q_E) progMixed ⟨.inl z31_ok, .inl z2j_ok, .inl z1c_ok, trivial⟩ Tryz.func40 (code := z0q_C) (by kernel_rfl) (z0q_A Kv) Kv (holds_all (z0q_h Kv)) (Nat.le_of_ble_eq_true (by kernel_rfl)) h
  . exact h.elim⟩
end Go.Proofs.YtmkjcheafdionaaGreat
