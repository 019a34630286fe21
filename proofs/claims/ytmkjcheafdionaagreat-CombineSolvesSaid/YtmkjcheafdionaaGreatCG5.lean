/- The bodies' formulas, by program. -/
import Derived.Test.YtmkjcheafdionaaGreatProg
import Derived.KernelRfl
import Derived.Test.YtmkjcheafdionaaGreatPwX
import Derived.Test.YtmkjcheafdionaaGreatCG0
import Derived.Test.YtmkjcheafdionaaGreatCG1
import Derived.Test.YtmkjcheafdionaaGreatCG2
import Derived.Test.YtmkjcheafdionaaGreatCG3
import Derived.Test.YtmkjcheafdionaaGreatCG4
set_option maxRecDepth 20000
namespace Go.Proofs.YtmkjcheafdionaaGreat
open Go Pw
/-! Rf_Ints -/
def z37_b0 (a_0 b_1 : Sl) (i_5 : Int) (N0 : Sl -> Sl -> Int -> World -> Prop) (K : Pw.T0) (w : World) : Prop :=
  cnd (decide (i_5 < (a_0.l : Int)))
    (let w1 := w.drew
  nz a_0.p fun a2 => (0 <= i_5 /\ i_5 < (a_0.l : Nat)) /\ ∃ x3 : Int, w1.cell? (a2.add (i_5.toNat * 1)) = some (Value.int .i64 x3) /\ nz b_1.p fun a4 => (0 <= i_5 /\ i_5 < (b_1.l : Nat)) /\ ∃ x5 : Int, w1.cell? (a4.add (i_5.toNat * 1)) = some (Value.int .i64 x5) /\ cnd (x3 != x5)
    (K false w1)
    (inR .i64 (i_5 + (1 : Int)) /\ N0 a_0 b_1 (i_5 + (1 : Int)) w1))
    (K true w)
def z37_l0d (a_0 b_1 : Sl) (i_5 : Int) (K : Pw.T0) (w : World) : Prop :=
  ∃ (I : Int -> World -> Prop) (μ : Int -> World -> Nat), I i_5 w /\ ∀ (i_51 : Int) (w1 : World), I i_51 w1 ->
    z37_b0 a_0 b_1 i_51 (fun a_0' b_1' i_5' w' => ((a_0' = a_0 /\ b_1' = b_1 /\ True) /\ I i_5' w') /\ μ i_5' w' < μ i_51 w1) K w1
structure z37_l0 (a_0 b_1 : Sl) (i_5 : Int) (K : Pw.T0) (w : World) : Prop where
  out : z37_l0d a_0 b_1 i_5 K w
def z37_sd (a_0 b_1 : Sl) (K : Pw.T0) (w : World) : Prop :=
  cnd ((a_0.l : Int) != (b_1.l : Int))
    (K false w)
    (z37_l0 a_0 b_1 (0 : Int) K w)
structure z37_sh (a_0 b_1 : Sl) (K : Pw.T0) (w : World) : Prop where
  out : z37_sd a_0 b_1 K w
def z37_P0 (Kv : VW) (ρ : Rho) (vs : List Value) (w : World) : Prop :=
  match ρ, vs with
  | _, [.slice a_0p a_0l a_0c, .slice b_1p b_1l b_1c, .int .i64 i_5] => z37_l0 ⟨a_0p, a_0l, a_0c⟩ ⟨b_1p, b_1l, b_1c⟩ i_5 (Pw.kB Kv) w
  | _, _ => False
noncomputable def z37_S : Pw.Spec := fun vs w Kv =>
  match vs with
  | [.slice a_0p a_0l a_0c, .slice b_1p b_1l b_1c] => z37_sh ⟨a_0p, a_0l, a_0c⟩ ⟨b_1p, b_1l, b_1c⟩ (Pw.kB Kv) w
  | _ => False
noncomputable def z37_E : Pw.Env := []
noncomputable def z37_C : Code := (Tryz.f15.body).getD .skip
noncomputable def z37_A (Kv : VW) : Pw.A :=
  (A.seq (A.reg (RA.run RA.done))
   (A.seq (A.seq (A.reg (Pw.rn 5 RA.done))
   (A.cond (A.seq (A.reg (RA.run RA.done))
   A.leaf)
   A.leaf))
   (A.seq (A.seq (A.reg (RA.run RA.done))
   (A.blk (A.loop [0, 1, 5] (z37_P0 Kv) (A.seq (A.seq (A.reg (Pw.rn 4 RA.done))
   (A.cond A.leaf
   A.leaf))
   (A.seq (A.blk (A.seq (A.drp (DA.pur 0 (DA.pur 1 (DA.pur 2 (DA.pur 3 (DA.pur 4 (DA.pur 5 (DA.pur 6 (DA.pur 7 (DA.pur 8 DA.done))))))))))
   (A.cond (A.seq (A.reg (RA.run RA.done))
   A.leaf)
   A.leaf)))
   (A.reg (Pw.rn 3 RA.done)))))))
   (A.seq (A.reg (RA.run RA.done))
   A.leaf))))
noncomputable def z37_O (Kv : VW) : List Ob := (obs Tryz.prog z37_E 26 (z37_A Kv) z37_C (fun _ => retQ Tryz.prog Tryz.f15.results Kv))
theorem z37_e (Kv : VW) (a_0p : Option Addr) (a_0l a_0c : Nat) (b_1p : Option Addr) (b_1l b_1c : Nat) (w : World) : z37_sd ⟨a_0p, a_0l, a_0c⟩ ⟨b_1p, b_1l, b_1c⟩ (Pw.kB Kv) w = W Tryz.prog z37_E 26 (z37_A Kv) z37_C [] (retQ Tryz.prog Tryz.f15.results Kv) [] (startS [(Value.slice a_0p a_0l a_0c), (Value.slice b_1p b_1l b_1c)]) w := by kernel_rfl
theorem z37_e0 (Kv : VW) (N0 : List Value -> World -> Prop) (ρ : Rho) (a_0p : Option Addr) (a_0l a_0c : Nat) (b_1p : Option Addr) (b_1l b_1c : Nat) (i_5 : Int) (w : World) : z37_b0 ⟨a_0p, a_0l, a_0c⟩ ⟨b_1p, b_1l, b_1c⟩ i_5 (fun a_0' b_1' i_5' w' => N0 [(Value.slice a_0'.p a_0'.l a_0'.c), (Value.slice b_1'.p b_1'.l b_1'.c), (Value.int .i64 i_5')] w') (Pw.kB Kv) w = goalAt Tryz.prog z37_E 26 (z37_O Kv) 0 (N0 :: ρ) [(Value.slice a_0p a_0l a_0c), (Value.slice b_1p b_1l b_1c), (Value.int .i64 i_5)] w := by kernel_rfl
theorem z37_q0 (Kv : VW) (ρ : Rho) (vs : List Value) (w : World) : labAt (z37_O Kv) 0 ρ vs w = z37_P0 Kv ρ vs w := by kernel_rfl
def z37_I0 (a_00 b_10 : Sl) (I : Int -> World -> Prop) (vs : List Value) (w : World) : Prop :=
  match vs with
  | [.slice a_0p a_0l a_0c, .slice b_1p b_1l b_1c, .int .i64 i_5] => (⟨a_0p, a_0l, a_0c⟩ = a_00 /\ ⟨b_1p, b_1l, b_1c⟩ = b_10 /\ True) /\ I i_5 w
  | _ => False
def z37_M0 (μ : Int -> World -> Nat) (vs : List Value) (w : World) : Nat :=
  match vs with
  | [.slice _a_0p _a_0l _a_0c, .slice _b_1p _b_1l _b_1c, .int .i64 i_5] => μ i_5 w
  | _ => 0
theorem z37_h0 (Kv : VW) : holdsAt Tryz.prog z37_E 26 (z37_O Kv) 0 := holdsAt_loop (by kernel_rfl) (fun ρ vs w h => by
  rw [z37_q0] at h
  unfold z37_P0 at h
  split at h
  . rename_i ρt a_0p a_0l a_0c b_1p b_1l b_1c i_5
    obtain ⟨I, μ, h0, hr⟩ := h.out
    refine ⟨z37_I0 ⟨a_0p, a_0l, a_0c⟩ ⟨b_1p, b_1l, b_1c⟩ I, z37_M0 μ, ⟨⟨rfl, rfl, trivial⟩, h0⟩, fun vs w hI => ?_⟩
    unfold z37_I0 at hI
    split at hI
    . obtain ⟨⟨h0, h1, _⟩, hI⟩ := hI
      cases h0; cases h1
      rw [← z37_e0]
      exact hr _ _ hI
    . exact hI.elim
  . exact h.elim)
theorem z37_n (Kv : VW) : obAt (z37_O Kv) 1 = none := by kernel_rfl
theorem z37_h (Kv : VW) : ∀ k, holdsAt Tryz.prog z37_E 26 (z37_O Kv) k := fun k => match k with
  | 0 => z37_h0 Kv
  | _k + 1 => holdsAt_ge (z37_n Kv) (Nat.le_add_left _ _)
theorem z37_ok : Sound Tryz.prog 15 z37_S := ⟨Tryz.call15, fun vs w Kv h => by
  unfold z37_S at h
  split at h
  . have h := h.out
    rw [z37_e] at h
    exact calls_sound (Γ := z37_E) progMixed trivial Tryz.func15 (code := z37_C) (by kernel_rfl) (z37_A Kv) Kv (holds_all (z37_h Kv)) (Nat.le_of_ble_eq_true (by kernel_rfl)) h
  . exact h.elim⟩
/-! Rf_numbers_next -/
def z0e_sd (m_0 : Option Addr) (n_1 : Int) (K : Pw.T1) (w : World) : Prop :=
  let w1 := w.drew
  nz m_0 fun a2 => ∃ x3 : Int, w1.cell? (a2.add 1) = some (Value.int .i64 x3) /\ nz m_0 fun a4 => ∃ x5 : Sl, w1.cell? a4 = some (Value.slice x5.p x5.l x5.c) /\ cnd (decide (x3 >= (x5.l : Int)))
    (K (0 : Int) w1)
    (nz m_0 fun a6 => ∃ x7 : Int, w1.cell? (a6.add 1) = some (Value.int .i64 x7) /\ inR .i64 (x7 + (1 : Int)) /\ nz m_0 fun a8 => wrOk w1 (a8.add 1) /\ 
  (let w9 := w1.setCell (a8.add 1) (Value.int .i64 (x7 + (1 : Int)))
  let w10 := w9.drew
  ∃ S11 : World -> Prop, S11 w10 /\ nz m_0 fun a12 => ∃ x13 : Sl, (∀ w' : World, S11 w' -> w'.cell? a12 = some (Value.slice x13.p x13.l x13.c)) /\ nz m_0 fun a14 => ∃ x15 : Int, (∀ w' : World, S11 w' -> w'.cell? (a14.add 1) = some (Value.int .i64 x15)) /\ inR .i64 (x15 - (1 : Int)) /\ nz x13.p fun a16 => (0 <= (x15 - (1 : Int)) /\ (x15 - (1 : Int)) < (x13.l : Nat)) /\ ∃ x17 : Int, (∀ w' : World, S11 w' -> w'.cell? (a16.add ((x15 - (1 : Int)).toNat * 1)) = some (Value.int .i64 x17)) /\ z3a_sh x17 n_1 (fun r19 w18 => S11 w18 /\ K r19 w18) w10))
structure z0e_sh (m_0 : Option Addr) (n_1 : Int) (K : Pw.T1) (w : World) : Prop where
  out : z0e_sd m_0 n_1 K w
noncomputable def z0e_S : Pw.Spec := fun vs w Kv =>
  match vs with
  | [.pointer m_0, .int .i64 n_1] => z0e_sh m_0 n_1 (Pw.kI Kv) w
  | _ => False
noncomputable def z0e_E : Pw.Env := [(39, z3a_S)]
noncomputable def z0e_C : Code := (Tryz.f27.body).getD .skip
noncomputable def z0e_A (_Kv : VW) : Pw.A :=
  (A.seq (A.reg (RA.run RA.done))
   (A.seq (A.seq (A.drp (DA.pur 0 (DA.pur 1 (DA.pur 2 (DA.pur 3 (DA.pur 4 (DA.pur 5 (DA.pur 6 (DA.pur 7 (DA.pur 8 (DA.pur 9 DA.done)))))))))))
   (A.cond (A.seq (A.reg (RA.run RA.done))
   A.leaf)
   A.leaf))
   (A.seq (A.reg (Pw.rn 8 RA.done))
   (A.seq (A.drw (DA.pur 0 (DA.pur 1 (DA.pur 2 (DA.pur 3 (DA.pur 4 (DA.pur 5 (DA.pur 6 (DA.pur 7 (DA.pur 8 (DA.pur 9 (DA.pur 10 (DA.pur 11 (DA.eff 12 (DA.pur 13 DA.done)))))))))))))))
   A.leaf))))
noncomputable def z0e_O (Kv : VW) : List Ob := (obs Tryz.prog z0e_E 35 (z0e_A Kv) z0e_C (fun _ => retQ Tryz.prog Tryz.f27.results Kv))
theorem z0e_e (Kv : VW) (m_0 : Option Addr) (n_1 : Int) (w : World) : z0e_sd m_0 n_1 (Pw.kI Kv) w = W Tryz.prog z0e_E 35 (z0e_A Kv) z0e_C [] (retQ Tryz.prog Tryz.f27.results Kv) [] (startS [(Value.pointer m_0), (Value.int .i64 n_1)]) w := by kernel_rfl
theorem z0e_n (Kv : VW) : obAt (z0e_O Kv) 0 = none := by kernel_rfl
theorem z0e_h (Kv : VW) : ∀ k, holdsAt Tryz.prog z0e_E 35 (z0e_O Kv) k := fun _ => holdsAt_ge (z0e_n Kv) (Nat.zero_le _)
theorem z0e_ok : Sound Tryz.prog 27 z0e_S := ⟨Tryz.call27, fun vs w Kv h => by
  unfold z0e_S at h
  split at h
  . have h := h.out
    rw [z0e_e] at h
    exact calls_sound (Γ := z0e_E) progMixed ⟨.inl z3a_ok, trivial⟩ Tryz.func27 (code := z0e_C) (by kernel_rfl) (z0e_A Kv) Kv (holds_all (z0e_h Kv)) (Nat.le_of_ble_eq_true (by kernel_rfl)) h
  . exact h.elim⟩
/-! Rf_Made -/
def z2x_b3 (t_2 m_3 p_4 : Addr) (lots_5 deals_9 i_10 : Int) (d_11 : Addr) (set_12 k_13 : Int) (N3 : Addr -> Addr -> Addr -> Int -> Int -> Int -> Addr -> Int -> Int -> World -> Prop) (N2 : Addr -> Addr -> Addr -> Int -> Int -> Int -> World -> Prop) (_K : Sl -> Sl -> Sl -> Int -> Int -> World -> Prop) (w : World) : Prop :=
  cnd (decide (k_13 < lots_5))
    (0 <= k_13 /\ cnd ((IntKind.wrap .i64 (((BitVec.ofInt (IntKind.bits .i64) (Int.fdiv set_12 (2 ^ (min k_13.toNat (IntKind.bits .i64)))) &&& BitVec.ofInt (IntKind.bits .i64) (1 : Int))).toNat : Int)) == (1 : Int))
    (let w50 := w.drew
  ∃ S51 : World -> Prop, S51 w50 /\ ∃ x52 : Sl, (∀ w' : World, S51 w' -> w'.cell? (d_11.add 1) = some (Value.slice x52.p x52.l x52.c)) /\ ∃ x53 : Sl, (∀ w' : World, S51 w' -> w'.cell? p_4 = some (Value.slice x53.p x53.l x53.c)) /\ nz x53.p fun a54 => (0 <= k_13 /\ k_13 < (x53.l : Nat)) /\ ∃ x55 : Int, (∀ w' : World, S51 w' -> w'.cell? (a54.add (k_13.toNat * 1)) = some (Value.int .i64 x55)) /\ let w56 := w50.alloc (Obj.cells #[(Value.int .i64 x55)] 3)
  S51 w56 /\ apS 1 8 [(Value.int .i64 0)] 3 x52 (Sl.mk (some (Addr.mk w50.heap.size 0 none)) 1 1) w56 fun s57 w58 => S51 w58 /\ wrOk w58 (d_11.add 1) /\ 
  (let w59 := w58.setCell (d_11.add 1) (Value.slice s57.p s57.l s57.c)
  inR .i64 (k_13 + (1 : Int)) /\ N3 t_2 m_3 p_4 lots_5 deals_9 i_10 d_11 set_12 (k_13 + (1 : Int)) w59))
    (inR .i64 (k_13 + (1 : Int)) /\ N3 t_2 m_3 p_4 lots_5 deals_9 i_10 d_11 set_12 (k_13 + (1 : Int)) w))
    (∃ x60 : Sl, w.cell? (p_4.add 2) = some (Value.slice x60.p x60.l x60.c) /\ ∃ x61 : Int, w.cell? d_11 = some (Value.int .i64 x61) /\ ∃ x62 : Sl, w.cell? (d_11.add 1) = some (Value.slice x62.p x62.l x62.c) /\ ∃ x63 : Int, w.cell? (d_11.add 2) = some (Value.int .i64 x63) /\ let w64 := w.alloc (Obj.cells #[(Value.int .i64 x61), (Value.slice x62.p x62.l x62.c), (Value.int .i64 x63)] 67)
  apS 3 40 [(Value.int .i64 0), (Value.slice none 0 0), (Value.int .i64 0)] 67 x60 (Sl.mk (some (Addr.mk w.heap.size 0 none)) 1 1) w64 fun s65 w66 => wrOk w66 (p_4.add 2) /\ 
  (let w67 := w66.setCell (p_4.add 2) (Value.slice s65.p s65.l s65.c)
  inR .i64 (i_10 + (1 : Int)) /\ N2 t_2 m_3 p_4 lots_5 deals_9 (i_10 + (1 : Int)) w67))
def z2x_l3d (t_2 m_3 p_4 : Addr) (lots_5 deals_9 i_10 : Int) (d_11 : Addr) (set_12 k_13 : Int) (N2 : Addr -> Addr -> Addr -> Int -> Int -> Int -> World -> Prop) (K : Pw.T6) (w : World) : Prop :=
  ∃ (I : Int -> World -> Prop) (μ : Int -> World -> Nat), I k_13 w /\ ∀ (k_131 : Int) (w1 : World), I k_131 w1 ->
    z2x_b3 t_2 m_3 p_4 lots_5 deals_9 i_10 d_11 set_12 k_131 (fun t_2' m_3' p_4' lots_5' deals_9' i_10' d_11' set_12' k_13' w' => ((t_2' = t_2 /\ m_3' = m_3 /\ p_4' = p_4 /\ lots_5' = lots_5 /\ deals_9' = deals_9 /\ i_10' = i_10 /\ d_11' = d_11 /\ set_12' = set_12 /\ True) /\ I k_13' w') /\ μ k_13' w' < μ k_131 w1) N2 K w1
structure z2x_l3 (t_2 m_3 p_4 : Addr) (lots_5 deals_9 i_10 : Int) (d_11 : Addr) (set_12 k_13 : Int) (N2 : Addr -> Addr -> Addr -> Int -> Int -> Int -> World -> Prop) (K : Pw.T6) (w : World) : Prop where
  out : z2x_l3d t_2 m_3 p_4 lots_5 deals_9 i_10 d_11 set_12 k_13 N2 K w
def z2x_b2 (t_2 m_3 p_4 : Addr) (lots_5 deals_9 i_10 : Int) (N2 : Addr -> Addr -> Addr -> Int -> Int -> Int -> World -> Prop) (K : Pw.T6) (w : World) : Prop :=
  cnd (decide (i_10 < deals_9))
    (z0e_sh (some m_3) (4 : Int) (fun r43 w42 => inR .i64 ((1 : Int) + r43) /\ z0e_sh (some m_3) (6 : Int) (fun r45 w44 => let w46 := w44.alloc (Obj.cells #[(Value.int .i64 0), (Value.slice none 0 0), (Value.int .i64 0)] 67)
  stN w46 (Addr.mk w44.heap.size 0 none) [(Value.int .i64 ((1 : Int) + r43)), (Value.slice none 0 0), (Value.int .i64 r45)] fun w47 => 0 <= lots_5 /\ inR .i64 ((IntKind.wrap .i64 ((1 : Int) * 2 ^ (min lots_5.toNat (IntKind.bits .i64)))) - (1 : Int)) /\ z0e_sh (some m_3) ((IntKind.wrap .i64 ((1 : Int) * 2 ^ (min lots_5.toNat (IntKind.bits .i64)))) - (1 : Int)) (fun r49 w48 => inR .i64 ((1 : Int) + r49) /\ z2x_l3 t_2 m_3 p_4 lots_5 deals_9 i_10 (Addr.mk w44.heap.size 0 none) ((1 : Int) + r49) (0 : Int) N2 K w48) w47) w42) w)
    (∃ x68 : Sl, w.cell? p_4 = some (Value.slice x68.p x68.l x68.c) /\ ∃ x69 : Sl, w.cell? (p_4.add 1) = some (Value.slice x69.p x69.l x69.c) /\ ∃ x70 : Sl, w.cell? (p_4.add 2) = some (Value.slice x70.p x70.l x70.c) /\ ∃ x71 : Int, w.cell? (p_4.add 3) = some (Value.int .i64 x71) /\ ∃ x72 : Int, w.cell? (p_4.add 4) = some (Value.int .i64 x72) /\ stN w t_2 [(Value.slice x68.p x68.l x68.c), (Value.slice x69.p x69.l x69.c), (Value.slice x70.p x70.l x70.c), (Value.int .i64 x71), (Value.int .i64 x72)] fun w73 => ∃ x74 : Sl, w73.cell? t_2 = some (Value.slice x74.p x74.l x74.c) /\ ∃ x75 : Sl, w73.cell? (t_2.add 1) = some (Value.slice x75.p x75.l x75.c) /\ ∃ x76 : Sl, w73.cell? (t_2.add 2) = some (Value.slice x76.p x76.l x76.c) /\ ∃ x77 : Int, w73.cell? (t_2.add 3) = some (Value.int .i64 x77) /\ ∃ x78 : Int, w73.cell? (t_2.add 4) = some (Value.int .i64 x78) /\ K x74 x75 x76 x77 x78 w73)
def z2x_l2d (t_2 m_3 p_4 : Addr) (lots_5 deals_9 i_10 : Int) (K : Pw.T6) (w : World) : Prop :=
  ∃ (I : Int -> World -> Prop) (μ : Int -> World -> Nat), I i_10 w /\ ∀ (i_101 : Int) (w1 : World), I i_101 w1 ->
    z2x_b2 t_2 m_3 p_4 lots_5 deals_9 i_101 (fun t_2' m_3' p_4' lots_5' deals_9' i_10' w' => ((t_2' = t_2 /\ m_3' = m_3 /\ p_4' = p_4 /\ lots_5' = lots_5 /\ deals_9' = deals_9 /\ True) /\ I i_10' w') /\ μ i_10' w' < μ i_101 w1) K w1
structure z2x_l2 (t_2 m_3 p_4 : Addr) (lots_5 deals_9 i_10 : Int) (K : Pw.T6) (w : World) : Prop where
  out : z2x_l2d t_2 m_3 p_4 lots_5 deals_9 i_10 K w
def z2x_b1 (t_2 m_3 p_4 : Addr) (lots_5 choices_7 i_8 : Int) (N1 : Addr -> Addr -> Addr -> Int -> Int -> Int -> World -> Prop) (K : Pw.T6) (w : World) : Prop :=
  cnd (decide (i_8 < choices_7))
    (let w22 := w.drew
  ∃ S23 : World -> Prop, S23 w22 /\ ∃ x24 : Sl, (∀ w' : World, S23 w' -> w'.cell? (p_4.add 1) = some (Value.slice x24.p x24.l x24.c)) /\ ∃ x25 : Sl, (∀ w' : World, S23 w' -> w'.cell? p_4 = some (Value.slice x25.p x25.l x25.c)) /\ z0e_sh (some m_3) lots_5 (fun r27 w26 => S23 w26 /\ nz x25.p fun a28 => (0 <= r27 /\ r27 < (x25.l : Nat)) /\ ∃ x29 : Int, (∀ w' : World, S23 w' -> w'.cell? (a28.add (r27.toNat * 1)) = some (Value.int .i64 x29)) /\ z0e_sh (some m_3) (4 : Int) (fun r31 w30 => S23 w30 /\ inR .i64 ((1 : Int) + r31) /\ z0e_sh (some m_3) (12 : Int) (fun r33 w32 => S23 w32 /\ z0e_sh (some m_3) (6 : Int) (fun r35 w34 => S23 w34 /\ let w36 := w34.alloc (Obj.cells #[(Value.int .i64 x29), (Value.int .i64 ((1 : Int) + r31)), (Value.int .i64 r33), (Value.int .i64 r35)] 65)
  S23 w36 /\ apS 4 32 [(Value.int .i64 0), (Value.int .i64 0), (Value.int .i64 0), (Value.int .i64 0)] 65 x24 (Sl.mk (some (Addr.mk w34.heap.size 0 none)) 1 1) w36 fun s37 w38 => S23 w38 /\ wrOk w38 (p_4.add 1) /\ 
  (let w39 := w38.setCell (p_4.add 1) (Value.slice s37.p s37.l s37.c)
  inR .i64 (i_8 + (1 : Int)) /\ N1 t_2 m_3 p_4 lots_5 choices_7 (i_8 + (1 : Int)) w39)) w32) w30) w26) w22)
    (z0e_sh (some m_3) (4 : Int) (fun r41 w40 => z2x_l2 t_2 m_3 p_4 lots_5 r41 (0 : Int) K w40) w)
def z2x_l1d (t_2 m_3 p_4 : Addr) (lots_5 choices_7 i_8 : Int) (K : Pw.T6) (w : World) : Prop :=
  ∃ (I : Int -> World -> Prop) (μ : Int -> World -> Nat), I i_8 w /\ ∀ (i_81 : Int) (w1 : World), I i_81 w1 ->
    z2x_b1 t_2 m_3 p_4 lots_5 choices_7 i_81 (fun t_2' m_3' p_4' lots_5' choices_7' i_8' w' => ((t_2' = t_2 /\ m_3' = m_3 /\ p_4' = p_4 /\ lots_5' = lots_5 /\ choices_7' = choices_7 /\ True) /\ I i_8' w') /\ μ i_8' w' < μ i_81 w1) K w1
structure z2x_l1 (t_2 m_3 p_4 : Addr) (lots_5 choices_7 i_8 : Int) (K : Pw.T6) (w : World) : Prop where
  out : z2x_l1d t_2 m_3 p_4 lots_5 choices_7 i_8 K w
def z2x_b0 (t_2 m_3 p_4 : Addr) (lots_5 i_6 : Int) (N0 : Addr -> Addr -> Addr -> Int -> Int -> World -> Prop) (K : Pw.T6) (w : World) : Prop :=
  cnd (decide (i_6 < lots_5))
    (let w11 := w.drew
  ∃ S12 : World -> Prop, S12 w11 /\ ∃ x13 : Sl, (∀ w' : World, S12 w' -> w'.cell? p_4 = some (Value.slice x13.p x13.l x13.c)) /\ inR .i64 ((3 : Int) * i_6) /\ inR .i64 ((10 : Int) + ((3 : Int) * i_6)) /\ z0e_sh (some m_3) (2 : Int) (fun r15 w14 => S12 w14 /\ inR .i64 ((2 : Int) * r15) /\ inR .i64 (((10 : Int) + ((3 : Int) * i_6)) - ((2 : Int) * r15)) /\ let w16 := w14.alloc (Obj.cells #[(Value.int .i64 (((10 : Int) + ((3 : Int) * i_6)) - ((2 : Int) * r15)))] 3)
  S12 w16 /\ apS 1 8 [(Value.int .i64 0)] 3 x13 (Sl.mk (some (Addr.mk w14.heap.size 0 none)) 1 1) w16 fun s17 w18 => wrOk w18 p_4 /\ 
  (let w19 := w18.setCell p_4 (Value.slice s17.p s17.l s17.c)
  inR .i64 (i_6 + (1 : Int)) /\ N0 t_2 m_3 p_4 lots_5 (i_6 + (1 : Int)) w19)) w11)
    (z0e_sh (some m_3) (13 : Int) (fun r21 w20 => z2x_l1 t_2 m_3 p_4 lots_5 r21 (0 : Int) K w20) w)
def z2x_l0d (t_2 m_3 p_4 : Addr) (lots_5 i_6 : Int) (K : Pw.T6) (w : World) : Prop :=
  ∃ (I : Int -> World -> Prop) (μ : Int -> World -> Nat), I i_6 w /\ ∀ (i_61 : Int) (w1 : World), I i_61 w1 ->
    z2x_b0 t_2 m_3 p_4 lots_5 i_61 (fun t_2' m_3' p_4' lots_5' i_6' w' => ((t_2' = t_2 /\ m_3' = m_3 /\ p_4' = p_4 /\ lots_5' = lots_5 /\ True) /\ I i_6' w') /\ μ i_6' w' < μ i_61 w1) K w1
structure z2x_l0 (t_2 m_3 p_4 : Addr) (lots_5 i_6 : Int) (K : Pw.T6) (w : World) : Prop where
  out : z2x_l0d t_2 m_3 p_4 lots_5 i_6 K w
def z2x_sd (l_0 : Sl) (K : Pw.T6) (w : World) : Prop :=
  let w1 := w.alloc (Obj.cells #[(Value.slice none 0 0), (Value.slice none 0 0), (Value.slice none 0 0), (Value.int .i64 0), (Value.int .i64 0)] 27)
  let w2 := w1.alloc (Obj.cells #[(Value.slice l_0.p l_0.l l_0.c), (Value.int .i64 0)] 62)
  z0e_sh (some (Addr.mk w1.heap.size 0 none)) (4 : Int) (fun r4 w3 => z0e_sh (some (Addr.mk w1.heap.size 0 none)) (30 : Int) (fun r6 w5 => let w7 := w5.alloc (Obj.cells #[(Value.slice none 0 0), (Value.slice none 0 0), (Value.slice none 0 0), (Value.int .i64 0), (Value.int .i64 0)] 27)
  stN w7 (Addr.mk w5.heap.size 0 none) [(Value.slice none 0 0), (Value.slice none 0 0), (Value.slice none 0 0), (Value.int .i64 r4), (Value.int .i64 r6)] fun w8 => z0e_sh (some (Addr.mk w1.heap.size 0 none)) (4 : Int) (fun r10 w9 => inR .i64 ((1 : Int) + r10) /\ z2x_l0 (Addr.mk w.heap.size 0 none) (Addr.mk w1.heap.size 0 none) (Addr.mk w5.heap.size 0 none) ((1 : Int) + r10) (0 : Int) K w9) w8) w3) w2
structure z2x_sh (l_0 : Sl) (K : Pw.T6) (w : World) : Prop where
  out : z2x_sd l_0 K w
def z2x_P0 (Kv : VW) (ρ : Rho) (vs : List Value) (w : World) : Prop :=
  match ρ, vs with
  | _, [.pointer (some t_2), .pointer (some m_3), .pointer (some p_4), .int .i64 lots_5, .int .i64 i_6] => z2x_l0 t_2 m_3 p_4 lots_5 i_6 (Pw.kP Kv) w
  | _, _ => False
def z2x_P1 (Kv : VW) (ρ : Rho) (vs : List Value) (w : World) : Prop :=
  match ρ, vs with
  | _, [.pointer (some t_2), .pointer (some m_3), .pointer (some p_4), .int .i64 lots_5, .int .i64 choices_7, .int .i64 i_8] => z2x_l1 t_2 m_3 p_4 lots_5 choices_7 i_8 (Pw.kP Kv) w
  | _, _ => False
def z2x_P2 (Kv : VW) (ρ : Rho) (vs : List Value) (w : World) : Prop :=
  match ρ, vs with
  | _, [.pointer (some t_2), .pointer (some m_3), .pointer (some p_4), .int .i64 lots_5, .int .i64 deals_9, .int .i64 i_10] => z2x_l2 t_2 m_3 p_4 lots_5 deals_9 i_10 (Pw.kP Kv) w
  | _, _ => False
def z2x_P3 (Kv : VW) (ρ : Rho) (vs : List Value) (w : World) : Prop :=
  match ρ, vs with
  | N2 :: _, [.pointer (some t_2), .pointer (some m_3), .pointer (some p_4), .int .i64 lots_5, .int .i64 deals_9, .int .i64 i_10, .pointer (some d_11), .int .i64 set_12, .int .i64 k_13] => z2x_l3 t_2 m_3 p_4 lots_5 deals_9 i_10 d_11 set_12 k_13 (fun t_2' m_3' p_4' lots_5' deals_9' i_10' w' => N2 [(Value.pointer (some t_2')), (Value.pointer (some m_3')), (Value.pointer (some p_4')), (Value.int .i64 lots_5'), (Value.int .i64 deals_9'), (Value.int .i64 i_10')] w') (Pw.kP Kv) w
  | _, _ => False
noncomputable def z2x_S : Pw.Spec := fun vs w Kv =>
  match vs with
  | [.slice l_0p l_0l l_0c] => z2x_sh ⟨l_0p, l_0l, l_0c⟩ (Pw.kP Kv) w
  | _ => False
noncomputable def z2x_E : Pw.Env := [(27, z0e_S)]
noncomputable def z2x_C : Code := (Tryz.f10.body).getD .skip
noncomputable def z2x_A (Kv : VW) : Pw.A :=
  (A.seq (A.reg (RA.run RA.done))
   (A.seq (A.reg (Pw.rn 4 RA.done))
   (A.seq (A.reg (Pw.rn 7 RA.done))
   (A.seq (A.reg (Pw.rn 4 RA.done))
   (A.seq (A.seq (A.reg (RA.run RA.done))
   (A.blk (A.loop [2, 3, 4, 5, 6] (z2x_P0 Kv) (A.seq (A.seq (A.reg (Pw.rn 3 RA.done))
   (A.cond A.leaf
   A.leaf))
   (A.seq (A.blk (A.drw (DA.pur 0 (DA.pur 1 (DA.pur 2 (DA.pur 3 (DA.pur 4 (DA.pur 5 (DA.eff 6 (DA.pur 7 (DA.pur 8 (DA.eff 9 (DA.eff 10 (DA.pur 11 (DA.eff 12 DA.done)))))))))))))))
   (A.reg (Pw.rn 3 RA.done)))))))
   (A.seq (A.reg (Pw.rn 3 RA.done))
   (A.seq (A.seq (A.reg (RA.run RA.done))
   (A.blk (A.loop [2, 3, 4, 5, 7, 8] (z2x_P1 Kv) (A.seq (A.seq (A.reg (Pw.rn 3 RA.done))
   (A.cond A.leaf
   A.leaf))
   (A.seq (A.blk (A.drw (DA.pur 0 (DA.pur 1 (DA.pur 2 (DA.pur 3 (DA.pur 4 (DA.pur 5 (DA.pur 9 (DA.pur 12 (DA.pur 14 (DA.eff 6 (DA.pur 7 (DA.pur 8 (DA.eff 10 (DA.pur 11 (DA.eff 13 (DA.eff 15 (DA.pur 16 (DA.eff 17 (DA.eff 18 (DA.pur 19 (DA.eff 20 DA.done)))))))))))))))))))))))
   (A.reg (Pw.rn 3 RA.done)))))))
   (A.seq (A.reg (Pw.rn 3 RA.done))
   (A.seq (A.seq (A.reg (RA.run RA.done))
   (A.blk (A.loop [2, 3, 4, 5, 9, 10] (z2x_P2 Kv) (A.seq (A.seq (A.reg (Pw.rn 3 RA.done))
   (A.cond A.leaf
   A.leaf))
   (A.seq (A.blk (A.seq (A.reg (Pw.rn 8 RA.done))
   (A.seq (A.reg (Pw.rn 7 RA.done))
   (A.seq (A.seq (A.reg (RA.run RA.done))
   (A.blk (A.loop [2, 3, 4, 5, 9, 10, 11, 12, 13] (z2x_P3 Kv) (A.seq (A.seq (A.reg (Pw.rn 3 RA.done))
   (A.cond A.leaf
   A.leaf))
   (A.seq (A.blk (A.seq (A.reg (Pw.rn 5 RA.done))
   (A.cond (A.drw (DA.pur 0 (DA.pur 1 (DA.pur 2 (DA.pur 3 (DA.pur 4 (DA.pur 5 (DA.pur 6 (DA.eff 7 (DA.eff 8 (DA.pur 9 (DA.eff 10 DA.done))))))))))))
   A.leaf)))
   (A.reg (Pw.rn 3 RA.done)))))))
   (A.reg (Pw.rn 7 RA.done))))))
   (A.reg (Pw.rn 3 RA.done)))))))
   (A.seq (A.reg (Pw.rn 2 RA.done))
   A.leaf))))))))))
noncomputable def z2x_O (Kv : VW) : List Ob := (obs Tryz.prog z2x_E 115 (z2x_A Kv) z2x_C (fun _ => retQ Tryz.prog Tryz.f10.results Kv))
theorem z2x_e (Kv : VW) (l_0p : Option Addr) (l_0l l_0c : Nat) (w : World) : z2x_sd ⟨l_0p, l_0l, l_0c⟩ (Pw.kP Kv) w = W Tryz.prog z2x_E 115 (z2x_A Kv) z2x_C [] (retQ Tryz.prog Tryz.f10.results Kv) [] (startS [(Value.slice l_0p l_0l l_0c)]) w := by kernel_rfl
theorem z2x_e0 (Kv : VW) (N0 : List Value -> World -> Prop) (ρ : Rho) (t_2 m_3 p_4 : Addr) (lots_5 i_6 : Int) (w : World) : z2x_b0 t_2 m_3 p_4 lots_5 i_6 (fun t_2' m_3' p_4' lots_5' i_6' w' => N0 [(Value.pointer (some t_2')), (Value.pointer (some m_3')), (Value.pointer (some p_4')), (Value.int .i64 lots_5'), (Value.int .i64 i_6')] w') (Pw.kP Kv) w = goalAt Tryz.prog z2x_E 115 (z2x_O Kv) 0 (N0 :: ρ) [(Value.pointer (some t_2)), (Value.pointer (some m_3)), (Value.pointer (some p_4)), (Value.int .i64 lots_5), (Value.int .i64 i_6)] w := by kernel_rfl
theorem z2x_q0 (Kv : VW) (ρ : Rho) (vs : List Value) (w : World) : labAt (z2x_O Kv) 0 ρ vs w = z2x_P0 Kv ρ vs w := by kernel_rfl
def z2x_I0 (t_20 m_30 p_40 : Addr) (lots_50 : Int) (I : Int -> World -> Prop) (vs : List Value) (w : World) : Prop :=
  match vs with
  | [.pointer (some t_2), .pointer (some m_3), .pointer (some p_4), .int .i64 lots_5, .int .i64 i_6] => (t_2 = t_20 /\ m_3 = m_30 /\ p_4 = p_40 /\ lots_5 = lots_50 /\ True) /\ I i_6 w
  | _ => False
def z2x_M0 (μ : Int -> World -> Nat) (vs : List Value) (w : World) : Nat :=
  match vs with
  | [.pointer (some _t_2), .pointer (some _m_3), .pointer (some _p_4), .int .i64 _lots_5, .int .i64 i_6] => μ i_6 w
  | _ => 0
theorem z2x_h0 (Kv : VW) : holdsAt Tryz.prog z2x_E 115 (z2x_O Kv) 0 := holdsAt_loop (by kernel_rfl) (fun ρ vs w h => by
  rw [z2x_q0] at h
  unfold z2x_P0 at h
  split at h
  . rename_i ρt t_2 m_3 p_4 lots_5 i_6
    obtain ⟨I, μ, h0, hr⟩ := h.out
    refine ⟨z2x_I0 t_2 m_3 p_4 lots_5 I, z2x_M0 μ, ⟨⟨rfl, rfl, rfl, rfl, trivial⟩, h0⟩, fun vs w hI => ?_⟩
    unfold z2x_I0 at hI
    split at hI
    . obtain ⟨⟨h0, h1, h2, h3, _⟩, hI⟩ := hI
      cases h0; cases h1; cases h2; cases h3
      rw [← z2x_e0]
      exact hr _ _ hI
    . exact hI.elim
  . exact h.elim)
theorem z2x_e1 (Kv : VW) (N1 : List Value -> World -> Prop) (ρ : Rho) (t_2 m_3 p_4 : Addr) (lots_5 choices_7 i_8 : Int) (w : World) : z2x_b1 t_2 m_3 p_4 lots_5 choices_7 i_8 (fun t_2' m_3' p_4' lots_5' choices_7' i_8' w' => N1 [(Value.pointer (some t_2')), (Value.pointer (some m_3')), (Value.pointer (some p_4')), (Value.int .i64 lots_5'), (Value.int .i64 choices_7'), (Value.int .i64 i_8')] w') (Pw.kP Kv) w = goalAt Tryz.prog z2x_E 115 (z2x_O Kv) 1 (N1 :: ρ) [(Value.pointer (some t_2)), (Value.pointer (some m_3)), (Value.pointer (some p_4)), (Value.int .i64 lots_5), (Value.int .i64 choices_7), (Value.int .i64 i_8)] w := by kernel_rfl
theorem z2x_q1 (Kv : VW) (ρ : Rho) (vs : List Value) (w : World) : labAt (z2x_O Kv) 1 ρ vs w = z2x_P1 Kv ρ vs w := by kernel_rfl
def z2x_I1 (t_20 m_30 p_40 : Addr) (lots_50 choices_70 : Int) (I : Int -> World -> Prop) (vs : List Value) (w : World) : Prop :=
  match vs with
  | [.pointer (some t_2), .pointer (some m_3), .pointer (some p_4), .int .i64 lots_5, .int .i64 choices_7, .int .i64 i_8] => (t_2 = t_20 /\ m_3 = m_30 /\ p_4 = p_40 /\ lots_5 = lots_50 /\ choices_7 = choices_70 /\ True) /\ I i_8 w
  | _ => False
def z2x_M1 (μ : Int -> World -> Nat) (vs : List Value) (w : World) : Nat :=
  match vs with
  | [.pointer (some _t_2), .pointer (some _m_3), .pointer (some _p_4), .int .i64 _lots_5, .int .i64 _choices_7, .int .i64 i_8] => μ i_8 w
  | _ => 0
theorem z2x_h1 (Kv : VW) : holdsAt Tryz.prog z2x_E 115 (z2x_O Kv) 1 := holdsAt_loop (by kernel_rfl) (fun ρ vs w h => by
  rw [z2x_q1] at h
  unfold z2x_P1 at h
  split at h
  . rename_i ρt t_2 m_3 p_4 lots_5 choices_7 i_8
    obtain ⟨I, μ, h0, hr⟩ := h.out
    refine ⟨z2x_I1 t_2 m_3 p_4 lots_5 choices_7 I, z2x_M1 μ, ⟨⟨rfl, rfl, rfl, rfl, rfl, trivial⟩, h0⟩, fun vs w hI => ?_⟩
    unfold z2x_I1 at hI
    split at hI
    . obtain ⟨⟨h0, h1, h2, h3, h4, _⟩, hI⟩ := hI
      cases h0; cases h1; cases h2; cases h3; cases h4
      rw [← z2x_e1]
      exact hr _ _ hI
    . exact hI.elim
  . exact h.elim)
theorem z2x_e2 (Kv : VW) (N2 : List Value -> World -> Prop) (ρ : Rho) (t_2 m_3 p_4 : Addr) (lots_5 deals_9 i_10 : Int) (w : World) : z2x_b2 t_2 m_3 p_4 lots_5 deals_9 i_10 (fun t_2' m_3' p_4' lots_5' deals_9' i_10' w' => N2 [(Value.pointer (some t_2')), (Value.pointer (some m_3')), (Value.pointer (some p_4')), (Value.int .i64 lots_5'), (Value.int .i64 deals_9'), (Value.int .i64 i_10')] w') (Pw.kP Kv) w = goalAt Tryz.prog z2x_E 115 (z2x_O Kv) 2 (N2 :: ρ) [(Value.pointer (some t_2)), (Value.pointer (some m_3)), (Value.pointer (some p_4)), (Value.int .i64 lots_5), (Value.int .i64 deals_9), (Value.int .i64 i_10)] w := by kernel_rfl
theorem z2x_q2 (Kv : VW) (ρ : Rho) (vs : List Value) (w : World) : labAt (z2x_O Kv) 2 ρ vs w = z2x_P2 Kv ρ vs w := by kernel_rfl
def z2x_I2 (t_20 m_30 p_40 : Addr) (lots_50 deals_90 : Int) (I : Int -> World -> Prop) (vs : List Value) (w : World) : Prop :=
  match vs with
  | [.pointer (some t_2), .pointer (some m_3), .pointer (some p_4), .int .i64 lots_5, .int .i64 deals_9, .int .i64 i_10] => (t_2 = t_20 /\ m_3 = m_30 /\ p_4 = p_40 /\ lots_5 = lots_50 /\ deals_9 = deals_90 /\ True) /\ I i_10 w
  | _ => False
def z2x_M2 (μ : Int -> World -> Nat) (vs : List Value) (w : World) : Nat :=
  match vs with
  | [.pointer (some _t_2), .pointer (some _m_3), .pointer (some _p_4), .int .i64 _lots_5, .int .i64 _deals_9, .int .i64 i_10] => μ i_10 w
  | _ => 0
theorem z2x_h2 (Kv : VW) : holdsAt Tryz.prog z2x_E 115 (z2x_O Kv) 2 := holdsAt_loop (by kernel_rfl) (fun ρ vs w h => by
  rw [z2x_q2] at h
  unfold z2x_P2 at h
  split at h
  . rename_i ρt t_2 m_3 p_4 lots_5 deals_9 i_10
    obtain ⟨I, μ, h0, hr⟩ := h.out
    refine ⟨z2x_I2 t_2 m_3 p_4 lots_5 deals_9 I, z2x_M2 μ, ⟨⟨rfl, rfl, rfl, rfl, rfl, trivial⟩, h0⟩, fun vs w hI => ?_⟩
    unfold z2x_I2 at hI
    split at hI
    . obtain ⟨⟨h0, h1, h2, h3, h4, _⟩, hI⟩ := hI
      cases h0; cases h1; cases h2; cases h3; cases h4
      rw [← z2x_e2]
      exact hr _ _ hI
    . exact hI.elim
  . exact h.elim)
theorem z2x_e3 (Kv : VW) (N3 N2 : List Value -> World -> Prop) (ρ : Rho) (t_2 m_3 p_4 : Addr) (lots_5 deals_9 i_10 : Int) (d_11 : Addr) (set_12 k_13 : Int) (w : World) : z2x_b3 t_2 m_3 p_4 lots_5 deals_9 i_10 d_11 set_12 k_13 (fun t_2' m_3' p_4' lots_5' deals_9' i_10' d_11' set_12' k_13' w' => N3 [(Value.pointer (some t_2')), (Value.pointer (some m_3')), (Value.pointer (some p_4')), (Value.int .i64 lots_5'), (Value.int .i64 deals_9'), (Value.int .i64 i_10'), (Value.pointer (some d_11')), (Value.int .i64 set_12'), (Value.int .i64 k_13')] w') (fun t_2' m_3' p_4' lots_5' deals_9' i_10' w' => N2 [(Value.pointer (some t_2')), (Value.pointer (some m_3')), (Value.pointer (some p_4')), (Value.int .i64 lots_5'), (Value.int .i64 deals_9'), (Value.int .i64 i_10')] w') (Pw.kP Kv) w = goalAt Tryz.prog z2x_E 115 (z2x_O Kv) 3 (N3 :: N2 :: ρ) [(Value.pointer (some t_2)), (Value.pointer (some m_3)), (Value.pointer (some p_4)), (Value.int .i64 lots_5), (Value.int .i64 deals_9), (Value.int .i64 i_10), (Value.pointer (some d_11)), (Value.int .i64 set_12), (Value.int .i64 k_13)] w := by kernel_rfl
theorem z2x_q3 (Kv : VW) (ρ : Rho) (vs : List Value) (w : World) : labAt (z2x_O Kv) 3 ρ vs w = z2x_P3 Kv ρ vs w := by kernel_rfl
def z2x_I3 (t_20 m_30 p_40 : Addr) (lots_50 deals_90 i_100 : Int) (d_110 : Addr) (set_120 : Int) (I : Int -> World -> Prop) (vs : List Value) (w : World) : Prop :=
  match vs with
  | [.pointer (some t_2), .pointer (some m_3), .pointer (some p_4), .int .i64 lots_5, .int .i64 deals_9, .int .i64 i_10, .pointer (some d_11), .int .i64 set_12, .int .i64 k_13] => (t_2 = t_20 /\ m_3 = m_30 /\ p_4 = p_40 /\ lots_5 = lots_50 /\ deals_9 = deals_90 /\ i_10 = i_100 /\ d_11 = d_110 /\ set_12 = set_120 /\ True) /\ I k_13 w
  | _ => False
def z2x_M3 (μ : Int -> World -> Nat) (vs : List Value) (w : World) : Nat :=
  match vs with
  | [.pointer (some _t_2), .pointer (some _m_3), .pointer (some _p_4), .int .i64 _lots_5, .int .i64 _deals_9, .int .i64 _i_10, .pointer (some _d_11), .int .i64 _set_12, .int .i64 k_13] => μ k_13 w
  | _ => 0
theorem z2x_h3 (Kv : VW) : holdsAt Tryz.prog z2x_E 115 (z2x_O Kv) 3 := holdsAt_loop (by kernel_rfl) (fun ρ vs w h => by
  rw [z2x_q3] at h
  unfold z2x_P3 at h
  split at h
  . rename_i N2 ρt t_2 m_3 p_4 lots_5 deals_9 i_10 d_11 set_12 k_13
    obtain ⟨I, μ, h0, hr⟩ := h.out
    refine ⟨z2x_I3 t_2 m_3 p_4 lots_5 deals_9 i_10 d_11 set_12 I, z2x_M3 μ, ⟨⟨rfl, rfl, rfl, rfl, rfl, rfl, rfl, rfl, trivial⟩, h0⟩, fun vs w hI => ?_⟩
    unfold z2x_I3 at hI
    split at hI
    . obtain ⟨⟨h0, h1, h2, h3, h4, h5, h6, h7, _⟩, hI⟩ := hI
      cases h0; cases h1; cases h2; cases h3; cases h4; cases h5; cases h6; cases h7
      rw [← z2x_e3]
      exact hr _ _ hI
    . exact hI.elim
  . exact h.elim)
theorem z2x_n (Kv : VW) : obAt (z2x_O Kv) 4 = none := by kernel_rfl
theorem z2x_h (Kv : VW) : ∀ k, holdsAt Tryz.prog z2x_E 115 (z2x_O Kv) k := fun k => match k with
  | 0 => z2x_h0 Kv
  | 1 => z2x_h1 Kv
  | 2 => z2x_h2 Kv
  | 3 => z2x_h3 Kv
  | _k + 4 => holdsAt_ge (z2x_n Kv) (Nat.le_add_left _ _)
theorem z2x_ok : Sound Tryz.prog 10 z2x_S := ⟨Tryz.call10, fun vs w Kv h => by
  unfold z2x_S at h
  split at h
  . have h := h.out
    rw [z2x_e] at h
    exact calls_sound (Γ := z2x_E) progMixed ⟨.inl z0e_ok, trivial⟩ Tryz.func10 (code := z2x_C) (by kernel_rfl) (z2x_A Kv) Kv (holds_all (z2x_h Kv)) (Nat.le_of_ble_eq_true (by kernel_rfl)) h
  . exact h.elim⟩
/-! Rf_Prefixes -/
def z10_b1 (p_1 : Addr) (out_3 now_4 : Int) (i_5 n_6 k_7 : Int) (N1 : Addr -> Int -> Int -> Int -> Int -> Int -> World -> Prop) (N0 : Addr -> Int -> Int -> Int -> World -> Prop) (_K : Int -> World -> Prop) (w : World) : Prop :=
  ∃ x3 : Sl, w.cell? (p_1.add 1) = some (Value.slice x3.p x3.l x3.c) /\ cnd (decide (k_7 < (x3.l : Int)))
    (let w4 := w.drew
  ∃ x5 : Sl, w4.cell? (p_1.add 1) = some (Value.slice x5.p x5.l x5.c) /\ nz x5.p fun a6 => (0 <= k_7 /\ k_7 < (x5.l : Nat)) /\ ∃ x7 : Int, w4.cell? (a6.add (k_7.toNat * 4)) = some (Value.int .i64 x7) /\ ∃ x8 : Sl, w4.cell? p_1 = some (Value.slice x8.p x8.l x8.c) /\ nz x8.p fun a9 => (0 <= i_5 /\ i_5 < (x8.l : Nat)) /\ ∃ x10 : Int, w4.cell? (a9.add (i_5.toNat * 1)) = some (Value.int .i64 x10) /\ cnd (x7 == x10)
    (inR .i64 (n_6 + (1 : Int)) /\ inR .i64 (k_7 + (1 : Int)) /\ N1 p_1 out_3 now_4 i_5 (n_6 + (1 : Int)) (k_7 + (1 : Int)) w4)
    (inR .i64 (k_7 + (1 : Int)) /\ N1 p_1 out_3 now_4 i_5 n_6 (k_7 + (1 : Int)) w4))
    (inR .i64 (now_4 * n_6) /\ inR .i64 (out_3 + (now_4 * n_6)) /\ inR .i64 (i_5 + (1 : Int)) /\ N0 p_1 (out_3 + (now_4 * n_6)) (now_4 * n_6) (i_5 + (1 : Int)) w)
def z10_l1d (p_1 : Addr) (out_3 now_4 : Int) (i_5 n_6 k_7 : Int) (N0 : Addr -> Int -> Int -> Int -> World -> Prop) (K : Pw.T1) (w : World) : Prop :=
  ∃ (I : Int -> Int -> World -> Prop) (μ : Int -> Int -> World -> Nat), I n_6 k_7 w /\ ∀ (n_61 k_71 : Int) (w1 : World), I n_61 k_71 w1 ->
    z10_b1 p_1 out_3 now_4 i_5 n_61 k_71 (fun p_1' out_3' now_4' i_5' n_6' k_7' w' => ((p_1' = p_1 /\ out_3' = out_3 /\ now_4' = now_4 /\ i_5' = i_5 /\ True) /\ I n_6' k_7' w') /\ μ n_6' k_7' w' < μ n_61 k_71 w1) N0 K w1
structure z10_l1 (p_1 : Addr) (out_3 now_4 : Int) (i_5 n_6 k_7 : Int) (N0 : Addr -> Int -> Int -> Int -> World -> Prop) (K : Pw.T1) (w : World) : Prop where
  out : z10_l1d p_1 out_3 now_4 i_5 n_6 k_7 N0 K w
def z10_b0 (p_1 : Addr) (out_3 now_4 i_5 : Int) (N0 : Addr -> Int -> Int -> Int -> World -> Prop) (K : Pw.T1) (w : World) : Prop :=
  ∃ x2 : Sl, w.cell? p_1 = some (Value.slice x2.p x2.l x2.c) /\ cnd (decide (i_5 < (x2.l : Int)))
    (z10_l1 p_1 out_3 now_4 i_5 (1 : Int) (0 : Int) N0 K w)
    (K out_3 w)
def z10_l0d (p_1 : Addr) (out_3 now_4 i_5 : Int) (K : Pw.T1) (w : World) : Prop :=
  ∃ (I : Int -> Int -> Int -> World -> Prop) (μ : Int -> Int -> Int -> World -> Nat), I out_3 now_4 i_5 w /\ ∀ (out_31 now_41 i_51 : Int) (w1 : World), I out_31 now_41 i_51 w1 ->
    z10_b0 p_1 out_31 now_41 i_51 (fun p_1' out_3' now_4' i_5' w' => ((p_1' = p_1 /\ True) /\ I out_3' now_4' i_5' w') /\ μ out_3' now_4' i_5' w' < μ out_31 now_41 i_51 w1) K w1
structure z10_l0 (p_1 : Addr) (out_3 now_4 i_5 : Int) (K : Pw.T1) (w : World) : Prop where
  out : z10_l0d p_1 out_3 now_4 i_5 K w
def z10_sd (p_0_0 p_0_1 p_0_2 : Sl) (p_0_3 p_0_4 : Int) (K : Pw.T1) (w : World) : Prop :=
  let w1 := w.alloc (Obj.cells #[(Value.slice p_0_0.p p_0_0.l p_0_0.c), (Value.slice p_0_1.p p_0_1.l p_0_1.c), (Value.slice p_0_2.p p_0_2.l p_0_2.c), (Value.int .i64 p_0_3), (Value.int .i64 p_0_4)] 27)
  z10_l0 (Addr.mk w.heap.size 0 none) (1 : Int) (1 : Int) (0 : Int) K w1
structure z10_sh (p_0_0 p_0_1 p_0_2 : Sl) (p_0_3 p_0_4 : Int) (K : Pw.T1) (w : World) : Prop where
  out : z10_sd p_0_0 p_0_1 p_0_2 p_0_3 p_0_4 K w
def z10_P0 (Kv : VW) (ρ : Rho) (vs : List Value) (w : World) : Prop :=
  match ρ, vs with
  | _, [.pointer (some p_1), .int .i64 out_3, .int .i64 now_4, .int .i64 i_5] => z10_l0 p_1 out_3 now_4 i_5 (Pw.kI Kv) w
  | _, _ => False
def z10_P1 (Kv : VW) (ρ : Rho) (vs : List Value) (w : World) : Prop :=
  match ρ, vs with
  | N0 :: _, [.pointer (some p_1), .int .i64 out_3, .int .i64 now_4, .int .i64 i_5, .int .i64 n_6, .int .i64 k_7] => z10_l1 p_1 out_3 now_4 i_5 n_6 k_7 (fun p_1' out_3' now_4' i_5' w' => N0 [(Value.pointer (some p_1')), (Value.int .i64 out_3'), (Value.int .i64 now_4'), (Value.int .i64 i_5')] w') (Pw.kI Kv) w
  | _, _ => False
noncomputable def z10_S : Pw.Spec := fun vs w Kv =>
  match vs with
  | [.agg ⟨[.slice p_0_0p p_0_0l p_0_0c, .slice p_0_1p p_0_1l p_0_1c, .slice p_0_2p p_0_2l p_0_2c, .int .i64 p_0_3, .int .i64 p_0_4]⟩] => z10_sh ⟨p_0_0p, p_0_0l, p_0_0c⟩ ⟨p_0_1p, p_0_1l, p_0_1c⟩ ⟨p_0_2p, p_0_2l, p_0_2c⟩ p_0_3 p_0_4 (Pw.kI Kv) w
  | _ => False
noncomputable def z10_E : Pw.Env := []
noncomputable def z10_C : Code := (Tryz.f12.body).getD .skip
noncomputable def z10_A (Kv : VW) : Pw.A :=
  (A.seq (A.reg (Pw.rn 2 RA.done))
   (A.seq (A.reg (RA.run RA.done))
   (A.seq (A.reg (RA.run RA.done))
   (A.seq (A.seq (A.reg (RA.run RA.done))
   (A.blk (A.loop [1, 3, 4, 5] (z10_P0 Kv) (A.seq (A.seq (A.reg (Pw.rn 5 RA.done))
   (A.cond A.leaf
   A.leaf))
   (A.seq (A.blk (A.seq (A.reg (RA.run RA.done))
   (A.seq (A.seq (A.reg (RA.run RA.done))
   (A.blk (A.loop [1, 3, 4, 5, 6, 7] (z10_P1 Kv) (A.seq (A.seq (A.reg (Pw.rn 5 RA.done))
   (A.cond A.leaf
   A.leaf))
   (A.seq (A.blk (A.seq (A.drp (DA.pur 0 (DA.pur 1 (DA.pur 2 (DA.pur 3 (DA.pur 4 (DA.pur 5 (DA.pur 6 (DA.pur 7 (DA.pur 8 (DA.pur 9 (DA.pur 10 (DA.pur 11 DA.done)))))))))))))
   (A.cond (A.reg (Pw.rn 3 RA.done))
   A.leaf)))
   (A.reg (Pw.rn 3 RA.done)))))))
   (A.seq (A.reg (Pw.rn 4 RA.done))
   (A.reg (Pw.rn 4 RA.done))))))
   (A.reg (Pw.rn 3 RA.done)))))))
   (A.seq (A.reg (Pw.rn 2 RA.done))
   A.leaf)))))
noncomputable def z10_O (Kv : VW) : List Ob := (obs Tryz.prog z10_E 43 (z10_A Kv) z10_C (fun _ => retQ Tryz.prog Tryz.f12.results Kv))
theorem z10_e (Kv : VW) (p_0_0p : Option Addr) (p_0_0l p_0_0c : Nat) (p_0_1p : Option Addr) (p_0_1l p_0_1c : Nat) (p_0_2p : Option Addr) (p_0_2l p_0_2c : Nat) (p_0_3 p_0_4 : Int) (w : World) : z10_sd ⟨p_0_0p, p_0_0l, p_0_0c⟩ ⟨p_0_1p, p_0_1l, p_0_1c⟩ ⟨p_0_2p, p_0_2l, p_0_2c⟩ p_0_3 p_0_4 (Pw.kI Kv) w = W Tryz.prog z10_E 43 (z10_A Kv) z10_C [] (retQ Tryz.prog Tryz.f12.results Kv) [] (startS [(Value.agg #[(Value.slice p_0_0p p_0_0l p_0_0c), (Value.slice p_0_1p p_0_1l p_0_1c), (Value.slice p_0_2p p_0_2l p_0_2c), (Value.int .i64 p_0_3), (Value.int .i64 p_0_4)])]) w := by kernel_rfl
theorem z10_e0 (Kv : VW) (N0 : List Value -> World -> Prop) (ρ : Rho) (p_1 : Addr) (out_3 now_4 i_5 : Int) (w : World) : z10_b0 p_1 out_3 now_4 i_5 (fun p_1' out_3' now_4' i_5' w' => N0 [(Value.pointer (some p_1')), (Value.int .i64 out_3'), (Value.int .i64 now_4'), (Value.int .i64 i_5')] w') (Pw.kI Kv) w = goalAt Tryz.prog z10_E 43 (z10_O Kv) 0 (N0 :: ρ) [(Value.pointer (some p_1)), (Value.int .i64 out_3), (Value.int .i64 now_4), (Value.int .i64 i_5)] w := by kernel_rfl
theorem z10_q0 (Kv : VW) (ρ : Rho) (vs : List Value) (w : World) : labAt (z10_O Kv) 0 ρ vs w = z10_P0 Kv ρ vs w := by kernel_rfl
def z10_I0 (p_10 : Addr) (I : Int -> Int -> Int -> World -> Prop) (vs : List Value) (w : World) : Prop :=
  match vs with
  | [.pointer (some p_1), .int .i64 out_3, .int .i64 now_4, .int .i64 i_5] => (p_1 = p_10 /\ True) /\ I out_3 now_4 i_5 w
  | _ => False
def z10_M0 (μ : Int -> Int -> Int -> World -> Nat) (vs : List Value) (w : World) : Nat :=
  match vs with
  | [.pointer (some _p_1), .int .i64 out_3, .int .i64 now_4, .int .i64 i_5] => μ out_3 now_4 i_5 w
  | _ => 0
theorem z10_h0 (Kv : VW) : holdsAt Tryz.prog z10_E 43 (z10_O Kv) 0 := holdsAt_loop (by kernel_rfl) (fun ρ vs w h => by
  rw [z10_q0] at h
  unfold z10_P0 at h
  split at h
  . rename_i ρt p_1 out_3 now_4 i_5
    obtain ⟨I, μ, h0, hr⟩ := h.out
    refine ⟨z10_I0 p_1 I, z10_M0 μ, ⟨⟨rfl, trivial⟩, h0⟩, fun vs w hI => ?_⟩
    unfold z10_I0 at hI
    split at hI
    . obtain ⟨⟨h0, _⟩, hI⟩ := hI
      cases h0
      rw [← z10_e0]
      exact hr _ _ _ _ hI
    . exact hI.elim
  . exact h.elim)
theorem z10_e1 (Kv : VW) (N1 N0 : List Value -> World -> Prop) (ρ : Rho) (p_1 : Addr) (out_3 now_4 : Int) (i_5 n_6 k_7 : Int) (w : World) : z10_b1 p_1 out_3 now_4 i_5 n_6 k_7 (fun p_1' out_3' now_4' i_5' n_6' k_7' w' => N1 [(Value.pointer (some p_1')), (Value.int .i64 out_3'), (Value.int .i64 now_4'), (Value.int .i64 i_5'), (Value.int .i64 n_6'), (Value.int .i64 k_7')] w') (fun p_1' out_3' now_4' i_5' w' => N0 [(Value.pointer (some p_1')), (Value.int .i64 out_3'), (Value.int .i64 now_4'), (Value.int .i64 i_5')] w') (Pw.kI Kv) w = goalAt Tryz.prog z10_E 43 (z10_O Kv) 1 (N1 :: N0 :: ρ) [(Value.pointer (some p_1)), (Value.int .i64 out_3), (Value.int .i64 now_4), (Value.int .i64 i_5), (Value.int .i64 n_6), (Value.int .i64 k_7)] w := by kernel_rfl
theorem z10_q1 (Kv : VW) (ρ : Rho) (vs : List Value) (w : World) : labAt (z10_O Kv) 1 ρ vs w = z10_P1 Kv ρ vs w := by kernel_rfl
def z10_I1 (p_10 : Addr) (out_30 now_40 i_50 : Int) (I : Int -> Int -> World -> Prop) (vs : List Value) (w : World) : Prop :=
  match vs with
  | [.pointer (some p_1), .int .i64 out_3, .int .i64 now_4, .int .i64 i_5, .int .i64 n_6, .int .i64 k_7] => (p_1 = p_10 /\ out_3 = out_30 /\ now_4 = now_40 /\ i_5 = i_50 /\ True) /\ I n_6 k_7 w
  | _ => False
def z10_M1 (μ : Int -> Int -> World -> Nat) (vs : List Value) (w : World) : Nat :=
  match vs with
  | [.pointer (some _p_1), .int .i64 _out_3, .int .i64 _now_4, .int .i64 _i_5, .int .i64 n_6, .int .i64 k_7] => μ n_6 k_7 w
  | _ => 0
theorem z10_h1 (Kv : VW) : holdsAt Tryz.prog z10_E 43 (z10_O Kv) 1 := holdsAt_loop (by kernel_rfl) (fun ρ vs w h => by
  rw [z10_q1] at h
  unfold z10_P1 at h
  split at h
  . rename_i N0 ρt p_1 out_3 now_4 i_5 n_6 k_7
    obtain ⟨I, μ, h0, hr⟩ := h.out
    refine ⟨z10_I1 p_1 out_3 now_4 i_5 I, z10_M1 μ, ⟨⟨rfl, rfl, rfl, rfl, trivial⟩, h0⟩, fun vs w hI => ?_⟩
    unfold z10_I1 at hI
    split at hI
    . obtain ⟨⟨h0, h1, h2, h3, _⟩, hI⟩ := hI
      cases h0; cases h1; cases h2; cases h3
      rw [← z10_e1]
      exact hr _ _ _ hI
    . exact hI.elim
  . exact h.elim)
theorem z10_n (Kv : VW) : obAt (z10_O Kv) 2 = none := by kernel_rfl
theorem z10_h (Kv : VW) : ∀ k, holdsAt Tryz.prog z10_E 43 (z10_O Kv) k := fun k => match k with
  | 0 => z10_h0 Kv
  | 1 => z10_h1 Kv
  | _k + 2 => holdsAt_ge (z10_n Kv) (Nat.le_add_left _ _)
theorem z10_ok : Sound Tryz.prog 12 z10_S := ⟨Tryz.call12, fun vs w Kv h => by
  unfold z10_S at h
  split at h
  . have h := h.out
    rw [z10_e] at h
    exact calls_sound (Γ := z10_E) progMixed trivial Tryz.func12 (code := z10_C) (by kernel_rfl) (z10_A Kv) Kv (holds_all (z10_h Kv)) (Nat.le_of_ble_eq_true (by kernel_rfl)) h
  . exact h.elim⟩
/-! Rf_contains -/
def z12_b0 (l_0 : Sl) (n_1 i_5 : Int) (N0 : Sl -> Int -> Int -> World -> Prop) (K : Pw.T0) (w : World) : Prop :=
  cnd (decide (i_5 < (l_0.l : Int)))
    (nz l_0.p fun a1 => (0 <= i_5 /\ i_5 < (l_0.l : Nat)) /\ ∃ x2 : Int, w.cell? (a1.add (i_5.toNat * 1)) = some (Value.int .i64 x2) /\ cnd (x2 == n_1)
    (K true w)
    (inR .i64 (i_5 + (1 : Int)) /\ N0 l_0 n_1 (i_5 + (1 : Int)) w))
    (K false w)
def z12_l0d (l_0 : Sl) (n_1 i_5 : Int) (K : Pw.T0) (w : World) : Prop :=
  ∃ (I : Int -> World -> Prop) (μ : Int -> World -> Nat), I i_5 w /\ ∀ (i_51 : Int) (w1 : World), I i_51 w1 ->
    z12_b0 l_0 n_1 i_51 (fun l_0' n_1' i_5' w' => ((l_0' = l_0 /\ n_1' = n_1 /\ True) /\ I i_5' w') /\ μ i_5' w' < μ i_51 w1) K w1
structure z12_l0 (l_0 : Sl) (n_1 i_5 : Int) (K : Pw.T0) (w : World) : Prop where
  out : z12_l0d l_0 n_1 i_5 K w
def z12_sd (l_0 : Sl) (n_1 : Int) (K : Pw.T0) (w : World) : Prop :=
  z12_l0 l_0 n_1 (0 : Int) K w
structure z12_sh (l_0 : Sl) (n_1 : Int) (K : Pw.T0) (w : World) : Prop where
  out : z12_sd l_0 n_1 K w
def z12_P0 (Kv : VW) (ρ : Rho) (vs : List Value) (w : World) : Prop :=
  match ρ, vs with
  | _, [.slice l_0p l_0l l_0c, .int .i64 n_1, .int .i64 i_5] => z12_l0 ⟨l_0p, l_0l, l_0c⟩ n_1 i_5 (Pw.kB Kv) w
  | _, _ => False
noncomputable def z12_S : Pw.Spec := fun vs w Kv =>
  match vs with
  | [.slice l_0p l_0l l_0c, .int .i64 n_1] => z12_sh ⟨l_0p, l_0l, l_0c⟩ n_1 (Pw.kB Kv) w
  | _ => False
noncomputable def z12_E : Pw.Env := []
noncomputable def z12_C : Code := (Tryz.f87.body).getD .skip
noncomputable def z12_A (Kv : VW) : Pw.A :=
  (A.seq (A.reg (RA.run RA.done))
   (A.seq (A.seq (A.reg (RA.run RA.done))
   (A.blk (A.loop [0, 1, 5] (z12_P0 Kv) (A.seq (A.seq (A.reg (Pw.rn 4 RA.done))
   (A.cond A.leaf
   A.leaf))
   (A.seq (A.blk (A.seq (A.reg (Pw.rn 6 RA.done))
   (A.cond (A.seq (A.reg (RA.run RA.done))
   A.leaf)
   A.leaf)))
   (A.reg (Pw.rn 3 RA.done)))))))
   (A.seq (A.reg (RA.run RA.done))
   A.leaf)))
noncomputable def z12_O (Kv : VW) : List Ob := (obs Tryz.prog z12_E 18 (z12_A Kv) z12_C (fun _ => retQ Tryz.prog Tryz.f87.results Kv))
theorem z12_e (Kv : VW) (l_0p : Option Addr) (l_0l l_0c : Nat) (n_1 : Int) (w : World) : z12_sd ⟨l_0p, l_0l, l_0c⟩ n_1 (Pw.kB Kv) w = W Tryz.prog z12_E 18 (z12_A Kv) z12_C [] (retQ Tryz.prog Tryz.f87.results Kv) [] (startS [(Value.slice l_0p l_0l l_0c), (Value.int .i64 n_1)]) w := by kernel_rfl
theorem z12_e0 (Kv : VW) (N0 : List Value -> World -> Prop) (ρ : Rho) (l_0p : Option Addr) (l_0l l_0c : Nat) (n_1 i_5 : Int) (w : World) : z12_b0 ⟨l_0p, l_0l, l_0c⟩ n_1 i_5 (fun l_0' n_1' i_5' w' => N0 [(Value.slice l_0'.p l_0'.l l_0'.c), (Value.int .i64 n_1'), (Value.int .i64 i_5')] w') (Pw.kB Kv) w = goalAt Tryz.prog z12_E 18 (z12_O Kv) 0 (N0 :: ρ) [(Value.slice l_0p l_0l l_0c), (Value.int .i64 n_1), (Value.int .i64 i_5)] w := by kernel_rfl
theorem z12_q0 (Kv : VW) (ρ : Rho) (vs : List Value) (w : World) : labAt (z12_O Kv) 0 ρ vs w = z12_P0 Kv ρ vs w := by kernel_rfl
def z12_I0 (l_00 : Sl) (n_10 : Int) (I : Int -> World -> Prop) (vs : List Value) (w : World) : Prop :=
  match vs with
  | [.slice l_0p l_0l l_0c, .int .i64 n_1, .int .i64 i_5] => (⟨l_0p, l_0l, l_0c⟩ = l_00 /\ n_1 = n_10 /\ True) /\ I i_5 w
  | _ => False
def z12_M0 (μ : Int -> World -> Nat) (vs : List Value) (w : World) : Nat :=
  match vs with
  | [.slice _l_0p _l_0l _l_0c, .int .i64 _n_1, .int .i64 i_5] => μ i_5 w
  | _ => 0
theorem z12_h0 (Kv : VW) : holdsAt Tryz.prog z12_E 18 (z12_O Kv) 0 := holdsAt_loop (by kernel_rfl) (fun ρ vs w h => by
  rw [z12_q0] at h
  unfold z12_P0 at h
  split at h
  . rename_i ρt l_0p l_0l l_0c n_1 i_5
    obtain ⟨I, μ, h0, hr⟩ := h.out
    refine ⟨z12_I0 ⟨l_0p, l_0l, l_0c⟩ n_1 I, z12_M0 μ, ⟨⟨rfl, rfl, trivial⟩, h0⟩, fun vs w hI => ?_⟩
    unfold z12_I0 at hI
    split at hI
    . obtain ⟨⟨h0, h1, _⟩, hI⟩ := hI
      cases h0; cases h1
      rw [← z12_e0]
      exact hr _ _ hI
    . exact hI.elim
  . exact h.elim)
theorem z12_n (Kv : VW) : obAt (z12_O Kv) 1 = none := by kernel_rfl
theorem z12_h (Kv : VW) : ∀ k, holdsAt Tryz.prog z12_E 18 (z12_O Kv) k := fun k => match k with
  | 0 => z12_h0 Kv
  | _k + 1 => holdsAt_ge (z12_n Kv) (Nat.le_add_left _ _)
theorem z12_ok : Sound Tryz.prog 87 z12_S := ⟨Tryz.call87, fun vs w Kv h => by
  unfold z12_S at h
  split at h
  . have h := h.out
    rw [z12_e] at h
    exact calls_sound (Γ := z12_E) progMixed trivial Tryz.func87 (code := z12_C) (by kernel_rfl) (z12_A Kv) Kv (holds_all (z12_h Kv)) (Nat.le_of_ble_eq_true (by kernel_rfl)) h
  . exact h.elim⟩
/-! Rf_different -/
def z0u_b0 (l_0 : Sl) (i_3 : Int) (N0 : Sl -> Int -> World -> Prop) (K : Pw.T0) (w : World) : Prop :=
  cnd (decide (i_3 < (l_0.l : Int)))
    (let w1 := w.drew
  ∃ S2 : World -> Prop, S2 w1 /\ (0 <= (0 : Int) /\ (0 : Int) <= i_3 /\ i_3 <= (l_0.c : Nat)) /\ nz l_0.p fun a3 => (0 <= i_3 /\ i_3 < (l_0.l : Nat)) /\ ∃ x4 : Int, (∀ w' : World, S2 w' -> w'.cell? (a3.add (i_3.toNat * 1)) = some (Value.int .i64 x4)) /\ z12_sh (Sl.mk (subP l_0.p 0 l_0.c 1) (i_3.toNat - 0) (l_0.c - 0)) x4 (fun r6 w5 => cnd r6
    (K false w5)
    (inR .i64 (i_3 + (1 : Int)) /\ N0 l_0 (i_3 + (1 : Int)) w5)) w1)
    (K true w)
def z0u_l0d (l_0 : Sl) (i_3 : Int) (K : Pw.T0) (w : World) : Prop :=
  ∃ (I : Int -> World -> Prop) (μ : Int -> World -> Nat), I i_3 w /\ ∀ (i_31 : Int) (w1 : World), I i_31 w1 ->
    z0u_b0 l_0 i_31 (fun l_0' i_3' w' => ((l_0' = l_0 /\ True) /\ I i_3' w') /\ μ i_3' w' < μ i_31 w1) K w1
structure z0u_l0 (l_0 : Sl) (i_3 : Int) (K : Pw.T0) (w : World) : Prop where
  out : z0u_l0d l_0 i_3 K w
def z0u_sd (l_0 : Sl) (K : Pw.T0) (w : World) : Prop :=
  z0u_l0 l_0 (0 : Int) K w
structure z0u_sh (l_0 : Sl) (K : Pw.T0) (w : World) : Prop where
  out : z0u_sd l_0 K w
def z0u_P0 (Kv : VW) (ρ : Rho) (vs : List Value) (w : World) : Prop :=
  match ρ, vs with
  | _, [.slice l_0p l_0l l_0c, .int .i64 i_3] => z0u_l0 ⟨l_0p, l_0l, l_0c⟩ i_3 (Pw.kB Kv) w
  | _, _ => False
noncomputable def z0u_S : Pw.Spec := fun vs w Kv =>
  match vs with
  | [.slice l_0p l_0l l_0c] => z0u_sh ⟨l_0p, l_0l, l_0c⟩ (Pw.kB Kv) w
  | _ => False
noncomputable def z0u_E : Pw.Env := [(87, z12_S)]
noncomputable def z0u_C : Code := (Tryz.f85.body).getD .skip
noncomputable def z0u_A (Kv : VW) : Pw.A :=
  (A.seq (A.reg (RA.run RA.done))
   (A.seq (A.seq (A.reg (RA.run RA.done))
   (A.blk (A.loop [0, 3] (z0u_P0 Kv) (A.seq (A.seq (A.reg (Pw.rn 4 RA.done))
   (A.cond A.leaf
   A.leaf))
   (A.seq (A.blk (A.seq (A.drw (DA.pur 0 (DA.pur 1 (DA.pur 2 (DA.pur 3 (DA.pur 4 (DA.pur 5 (DA.pur 6 (DA.eff 7 DA.done)))))))))
   (A.cond (A.seq (A.reg (RA.run RA.done))
   A.leaf)
   A.leaf)))
   (A.reg (Pw.rn 3 RA.done)))))))
   (A.seq (A.reg (RA.run RA.done))
   A.leaf)))
noncomputable def z0u_O (Kv : VW) : List Ob := (obs Tryz.prog z0u_E 18 (z0u_A Kv) z0u_C (fun _ => retQ Tryz.prog Tryz.f85.results Kv))
theorem z0u_e (Kv : VW) (l_0p : Option Addr) (l_0l l_0c : Nat) (w : World) : z0u_sd ⟨l_0p, l_0l, l_0c⟩ (Pw.kB Kv) w = W Tryz.prog z0u_E 18 (z0u_A Kv) z0u_C [] (retQ Tryz.prog Tryz.f85.results Kv) [] (startS [(Value.slice l_0p l_0l l_0c)]) w := by kernel_rfl
theorem z0u_e0 (Kv : VW) (N0 : List Value -> World -> Prop) (ρ : Rho) (l_0p : Option Addr) (l_0l l_0c : Nat) (i_3 : Int) (w : World) : z0u_b0 ⟨l_0p, l_0l, l_0c⟩ i_3 (fun l_0' i_3' w' => N0 [(Value.slice l_0'.p l_0'.l l_0'.c), (Value.int .i64 i_3')] w') (Pw.kB Kv) w = goalAt Tryz.prog z0u_E 18 (z0u_O Kv) 0 (N0 :: ρ) [(Value.slice l_0p l_0l l_0c), (Value.int .i64 i_3)] w := by kernel_rfl
theorem z0u_q0 (Kv : VW) (ρ : Rho) (vs : List Value) (w : World) : labAt (z0u_O Kv) 0 ρ vs w = z0u_P0 Kv ρ vs w := by kernel_rfl
def z0u_I0 (l_00 : Sl) (I : Int -> World -> Prop) (vs : List Value) (w : World) : Prop :=
  match vs with
  | [.slice l_0p l_0l l_0c, .int .i64 i_3] => (⟨l_0p, l_0l, l_0c⟩ = l_00 /\ True) /\ I i_3 w
  | _ => False
def z0u_M0 (μ : Int -> World -> Nat) (vs : List Value) (w : World) : Nat :=
  match vs with
  | [.slice _l_0p _l_0l _l_0c, .int .i64 i_3] => μ i_3 w
  | _ => 0
theorem z0u_h0 (Kv : VW) : holdsAt Tryz.prog z0u_E 18 (z0u_O Kv) 0 := holdsAt_loop (by kernel_rfl) (fun ρ vs w h => by
  rw [z0u_q0] at h
  unfold z0u_P0 at h
  split at h
  . rename_i ρt l_0p l_0l l_0c i_3
    obtain ⟨I, μ, h0, hr⟩ := h.out
    refine ⟨z0u_I0 ⟨l_0p, l_0l, l_0c⟩ I, z0u_M0 μ, ⟨⟨rfl, trivial⟩, h0⟩, fun vs w hI => ?_⟩
    unfold z0u_I0 at hI
    split at hI
    . obtain ⟨⟨h0, _⟩, hI⟩ := hI
      cases h0
      rw [← z0u_e0]
      exact hr _ _ hI
    . exact hI.elim
  . exact h.elim)
theorem z0u_n (Kv : VW) : obAt (z0u_O Kv) 1 = none := by kernel_rfl
theorem z0u_h (Kv : VW) : ∀ k, holdsAt Tryz.prog z0u_E 18 (z0u_O Kv) k := fun k => match k with
  | 0 => z0u_h0 Kv
  | _k + 1 => holdsAt_ge (z0u_n Kv) (Nat.le_add_left _ _)
theorem z0u_ok : Sound Tryz.prog 85 z0u_S := ⟨Tryz.call85, fun vs w Kv h => by
  unfold z0u_S at h
  split at h
  . have h := h.out
    rw [z0u_e] at h
    exact calls_sound (Γ := z0u_E) progMixed ⟨.inl z12_ok, trivial⟩ Tryz.func85 (code := z0u_C) (by kernel_rfl) (z0u_A Kv) Kv (holds_all (z0u_h Kv)) (Nat.le_of_ble_eq_true (by kernel_rfl)) h
  . exact h.elim⟩
/-! Rf_within -/
def z28_sd (n_0 most_1 : Int) (K : Pw.T0) (w : World) : Prop :=
  cnd (decide (n_0 >= (0 : Int)))
    (K (decide (n_0 <= most_1)) w)
    (K false w)
structure z28_sh (n_0 most_1 : Int) (K : Pw.T0) (w : World) : Prop where
  out : z28_sd n_0 most_1 K w
noncomputable def z28_S : Pw.Spec := fun vs w Kv =>
  match vs with
  | [.int .i64 n_0, .int .i64 most_1] => z28_sh n_0 most_1 (Pw.kB Kv) w
  | _ => False
noncomputable def z28_E : Pw.Env := []
noncomputable def z28_C : Code := (Tryz.f86.body).getD .skip
noncomputable def z28_A (_Kv : VW) : Pw.A :=
  (A.seq (A.reg (RA.run RA.done))
   (A.seq (A.reg (Pw.rn 3 (RA.spl 7 (Pw.rn 5 RA.done) (Pw.sk 3 (Pw.rn 2 RA.done)))))
   A.leaf))
noncomputable def z28_O (Kv : VW) : List Ob := (obs Tryz.prog z28_E 12 (z28_A Kv) z28_C (fun _ => retQ Tryz.prog Tryz.f86.results Kv))
theorem z28_e (Kv : VW) (n_0 most_1 : Int) (w : World) : z28_sd n_0 most_1 (Pw.kB Kv) w = W Tryz.prog z28_E 12 (z28_A Kv) z28_C [] (retQ Tryz.prog Tryz.f86.results Kv) [] (startS [(Value.int .i64 n_0), (Value.int .i64 most_1)]) w := by kernel_rfl
theorem z28_n (Kv : VW) : obAt (z28_O Kv) 0 = none := by kernel_rfl
theorem z28_h (Kv : VW) : ∀ k, holdsAt Tryz.prog z28_E 12 (z28_O Kv) k := fun _ => holdsAt_ge (z28_n Kv) (Nat.zero_le _)
theorem z28_ok : Sound Tryz.prog 86 z28_S := ⟨Tryz.call86, fun vs w Kv h => by
  unfold z28_S at h
  split at h
  . have h := h.out
    rw [z28_e] at h
    exact calls_sound (Γ := z28_E) progMixed trivial Tryz.func86 (code := z28_C) (by kernel_rfl) (z28_A Kv) Kv (holds_all (z28_h Kv)) (Nat.le_of_ble_eq_true (by kernel_rfl)) h
  . exact h.elim⟩
/-! Rf_Right -/
def z2e_b2 (p_1 : Addr) (i_5 : Int) (d_6 : Addr) (k_7 : Int) (N2 : Addr -> Int -> Addr -> Int -> World -> Prop) (N1 : Addr -> Int -> World -> Prop) (K : Pw.T0) (w : World) : Prop :=
  ∃ x49 : Sl, w.cell? (d_6.add 1) = some (Value.slice x49.p x49.l x49.c) /\ cnd (decide (k_7 < (x49.l : Int)))
    (let w50 := w.drew
  ∃ S51 : World -> Prop, S51 w50 /\ ∃ x52 : Sl, (∀ w' : World, S51 w' -> w'.cell? p_1 = some (Value.slice x52.p x52.l x52.c)) /\ ∃ x53 : Sl, (∀ w' : World, S51 w' -> w'.cell? (d_6.add 1) = some (Value.slice x53.p x53.l x53.c)) /\ nz x53.p fun a54 => (0 <= k_7 /\ k_7 < (x53.l : Nat)) /\ ∃ x55 : Int, (∀ w' : World, S51 w' -> w'.cell? (a54.add (k_7.toNat * 1)) = some (Value.int .i64 x55)) /\ z12_sh x52 x55 (fun r57 w56 => S51 w56 /\ cnd (!r57)
    (K false w56)
    (inR .i64 (k_7 + (1 : Int)) /\ N2 p_1 i_5 d_6 (k_7 + (1 : Int)) w56)) w50)
    (inR .i64 (i_5 + (1 : Int)) /\ N1 p_1 (i_5 + (1 : Int)) w)
def z2e_l2d (p_1 : Addr) (i_5 : Int) (d_6 : Addr) (k_7 : Int) (N1 : Addr -> Int -> World -> Prop) (K : Pw.T0) (w : World) : Prop :=
  ∃ (I : Int -> World -> Prop) (μ : Int -> World -> Nat), I k_7 w /\ ∀ (k_71 : Int) (w1 : World), I k_71 w1 ->
    z2e_b2 p_1 i_5 d_6 k_71 (fun p_1' i_5' d_6' k_7' w' => ((p_1' = p_1 /\ i_5' = i_5 /\ d_6' = d_6 /\ True) /\ I k_7' w') /\ μ k_7' w' < μ k_71 w1) N1 K w1
structure z2e_l2 (p_1 : Addr) (i_5 : Int) (d_6 : Addr) (k_7 : Int) (N1 : Addr -> Int -> World -> Prop) (K : Pw.T0) (w : World) : Prop where
  out : z2e_l2d p_1 i_5 d_6 k_7 N1 K w
def z2e_b1 (p_1 : Addr) (i_5 : Int) (N1 : Addr -> Int -> World -> Prop) (K : Pw.T0) (w : World) : Prop :=
  ∃ x34 : Sl, w.cell? (p_1.add 2) = some (Value.slice x34.p x34.l x34.c) /\ cnd (decide (i_5 < (x34.l : Int)))
    (∃ x35 : Sl, w.cell? (p_1.add 2) = some (Value.slice x35.p x35.l x35.c) /\ nz x35.p fun a36 => (0 <= i_5 /\ i_5 < (x35.l : Nat)) /\ ∃ x37 : Int, w.cell? (a36.add (i_5.toNat * 3)) = some (Value.int .i64 x37) /\ ∃ x38 : Sl, w.cell? ((a36.add (i_5.toNat * 3)).add 1) = some (Value.slice x38.p x38.l x38.c) /\ ∃ x39 : Int, w.cell? ((a36.add (i_5.toNat * 3)).add 2) = some (Value.int .i64 x39) /\ let w40 := w.alloc (Obj.cells #[(Value.int .i64 0), (Value.slice none 0 0), (Value.int .i64 0)] 67)
  stN w40 (Addr.mk w.heap.size 0 none) [(Value.int .i64 x37), (Value.slice x38.p x38.l x38.c), (Value.int .i64 x39)] fun w41 => ∃ x42 : Sl, w41.cell? (Addr.mk w.heap.size 1 none) = some (Value.slice x42.p x42.l x42.c) /\ cnd ((x42.l : Int) == (0 : Int))
    (K false w41)
    (∃ x43 : Sl, w41.cell? (Addr.mk w.heap.size 1 none) = some (Value.slice x43.p x43.l x43.c) /\ z0u_sh x43 (fun r45 w44 => cnd (!r45)
    (K false w44)
    (∃ x46 : Int, w44.cell? (Addr.mk w.heap.size 2 none) = some (Value.int .i64 x46) /\ z28_sh x46 (1000000000 : Int) (fun r48 w47 => cnd (!r48)
    (K false w47)
    (z2e_l2 p_1 i_5 (Addr.mk w.heap.size 0 none) (0 : Int) N1 K w47)) w44)) w41))
    (K true w)
def z2e_l1d (p_1 : Addr) (i_5 : Int) (K : Pw.T0) (w : World) : Prop :=
  ∃ (I : Int -> World -> Prop) (μ : Int -> World -> Nat), I i_5 w /\ ∀ (i_51 : Int) (w1 : World), I i_51 w1 ->
    z2e_b1 p_1 i_51 (fun p_1' i_5' w' => ((p_1' = p_1 /\ True) /\ I i_5' w') /\ μ i_5' w' < μ i_51 w1) K w1
structure z2e_l1 (p_1 : Addr) (i_5 : Int) (K : Pw.T0) (w : World) : Prop where
  out : z2e_l1d p_1 i_5 K w
def z2e_b0 (p_1 : Addr) (i_3 : Int) (N0 : Addr -> Int -> World -> Prop) (K : Pw.T0) (w : World) : Prop :=
  ∃ x15 : Sl, w.cell? (p_1.add 1) = some (Value.slice x15.p x15.l x15.c) /\ cnd (decide (i_3 < (x15.l : Int)))
    (∃ x16 : Sl, w.cell? (p_1.add 1) = some (Value.slice x16.p x16.l x16.c) /\ nz x16.p fun a17 => (0 <= i_3 /\ i_3 < (x16.l : Nat)) /\ ∃ x18 : Int, w.cell? (a17.add (i_3.toNat * 4)) = some (Value.int .i64 x18) /\ ∃ x19 : Int, w.cell? ((a17.add (i_3.toNat * 4)).add 1) = some (Value.int .i64 x19) /\ ∃ x20 : Int, w.cell? ((a17.add (i_3.toNat * 4)).add 2) = some (Value.int .i64 x20) /\ ∃ x21 : Int, w.cell? ((a17.add (i_3.toNat * 4)).add 3) = some (Value.int .i64 x21) /\ let w22 := w.alloc (Obj.cells #[(Value.int .i64 0), (Value.int .i64 0), (Value.int .i64 0), (Value.int .i64 0)] 65)
  stN w22 (Addr.mk w.heap.size 0 none) [(Value.int .i64 x18), (Value.int .i64 x19), (Value.int .i64 x20), (Value.int .i64 x21)] fun w23 => ∃ x24 : Sl, w23.cell? p_1 = some (Value.slice x24.p x24.l x24.c) /\ ∃ x25 : Int, w23.cell? (Addr.mk w.heap.size 0 none) = some (Value.int .i64 x25) /\ z12_sh x24 x25 (fun r27 w26 => cnd (!r27)
    (K false w26)
    (∃ x28 : Int, w26.cell? (Addr.mk w.heap.size 2 none) = some (Value.int .i64 x28) /\ z28_sh x28 (1000000000 : Int) (fun r30 w29 => cnd (!r30)
    (K false w29)
    (∃ x31 : Int, w29.cell? (Addr.mk w.heap.size 3 none) = some (Value.int .i64 x31) /\ z28_sh x31 (1000000 : Int) (fun r33 w32 => cnd (!r33)
    (K false w32)
    (inR .i64 (i_3 + (1 : Int)) /\ N0 p_1 (i_3 + (1 : Int)) w32)) w29)) w26)) w23)
    (z2e_l1 p_1 (0 : Int) K w)
def z2e_l0d (p_1 : Addr) (i_3 : Int) (K : Pw.T0) (w : World) : Prop :=
  ∃ (I : Int -> World -> Prop) (μ : Int -> World -> Nat), I i_3 w /\ ∀ (i_31 : Int) (w1 : World), I i_31 w1 ->
    z2e_b0 p_1 i_31 (fun p_1' i_3' w' => ((p_1' = p_1 /\ True) /\ I i_3' w') /\ μ i_3' w' < μ i_31 w1) K w1
structure z2e_l0 (p_1 : Addr) (i_3 : Int) (K : Pw.T0) (w : World) : Prop where
  out : z2e_l0d p_1 i_3 K w
def z2e_sd (p_0_0 p_0_1 p_0_2 : Sl) (p_0_3 p_0_4 : Int) (K : Pw.T0) (w : World) : Prop :=
  let w1 := w.alloc (Obj.cells #[(Value.slice p_0_0.p p_0_0.l p_0_0.c), (Value.slice p_0_1.p p_0_1.l p_0_1.c), (Value.slice p_0_2.p p_0_2.l p_0_2.c), (Value.int .i64 p_0_3), (Value.int .i64 p_0_4)] 27)
  ∃ x2 : Sl, w1.cell? (Addr.mk w.heap.size 0 none) = some (Value.slice x2.p x2.l x2.c) /\ cnd (decide ((x2.l : Int) < (1 : Int)))
    (K false w1)
    (∃ x3 : Sl, w1.cell? (Addr.mk w.heap.size 0 none) = some (Value.slice x3.p x3.l x3.c) /\ cnd (decide ((x3.l : Int) > (12 : Int)))
    (K false w1)
    (∃ x4 : Sl, w1.cell? (Addr.mk w.heap.size 0 none) = some (Value.slice x4.p x4.l x4.c) /\ z0u_sh x4 (fun r6 w5 => cnd (!r6)
    (K false w5)
    (∃ x7 : Sl, w5.cell? (Addr.mk w.heap.size 1 none) = some (Value.slice x7.p x7.l x7.c) /\ cnd (decide ((x7.l : Int) > (480 : Int)))
    (K false w5)
    (∃ x8 : Sl, w5.cell? (Addr.mk w.heap.size 2 none) = some (Value.slice x8.p x8.l x8.c) /\ cnd (decide ((x8.l : Int) > (100 : Int)))
    (K false w5)
    (∃ x9 : Int, w5.cell? (Addr.mk w.heap.size 3 none) = some (Value.int .i64 x9) /\ z28_sh x9 (1000000000 : Int) (fun r11 w10 => cnd (!r11)
    (K false w10)
    (∃ x12 : Int, w10.cell? (Addr.mk w.heap.size 4 none) = some (Value.int .i64 x12) /\ z28_sh x12 (1000000000 : Int) (fun r14 w13 => cnd (!r14)
    (K false w13)
    (z2e_l0 (Addr.mk w.heap.size 0 none) (0 : Int) K w13)) w10)) w5)))) w1))
structure z2e_sh (p_0_0 p_0_1 p_0_2 : Sl) (p_0_3 p_0_4 : Int) (K : Pw.T0) (w : World) : Prop where
  out : z2e_sd p_0_0 p_0_1 p_0_2 p_0_3 p_0_4 K w
def z2e_P0 (Kv : VW) (ρ : Rho) (vs : List Value) (w : World) : Prop :=
  match ρ, vs with
  | _, [.pointer (some p_1), .int .i64 i_3] => z2e_l0 p_1 i_3 (Pw.kB Kv) w
  | _, _ => False
def z2e_P1 (Kv : VW) (ρ : Rho) (vs : List Value) (w : World) : Prop :=
  match ρ, vs with
  | _, [.pointer (some p_1), .int .i64 i_5] => z2e_l1 p_1 i_5 (Pw.kB Kv) w
  | _, _ => False
def z2e_P2 (Kv : VW) (ρ : Rho) (vs : List Value) (w : World) : Prop :=
  match ρ, vs with
  | N1 :: _, [.pointer (some p_1), .int .i64 i_5, .pointer (some d_6), .int .i64 k_7] => z2e_l2 p_1 i_5 d_6 k_7 (fun p_1' i_5' w' => N1 [(Value.pointer (some p_1')), (Value.int .i64 i_5')] w') (Pw.kB Kv) w
  | _, _ => False
noncomputable def z2e_S : Pw.Spec := fun vs w Kv =>
  match vs with
  | [.agg ⟨[.slice p_0_0p p_0_0l p_0_0c, .slice p_0_1p p_0_1l p_0_1c, .slice p_0_2p p_0_2l p_0_2c, .int .i64 p_0_3, .int .i64 p_0_4]⟩] => z2e_sh ⟨p_0_0p, p_0_0l, p_0_0c⟩ ⟨p_0_1p, p_0_1l, p_0_1c⟩ ⟨p_0_2p, p_0_2l, p_0_2c⟩ p_0_3 p_0_4 (Pw.kB Kv) w
  | _ => False
noncomputable def z2e_E : Pw.Env := [(85, z0u_S), (86, z28_S), (87, z12_S)]
noncomputable def z2e_C : Code := (Tryz.f62.body).getD .skip
noncomputable def z2e_A (Kv : VW) : Pw.A :=
  (A.seq (A.reg (Pw.rn 2 RA.done))
   (A.seq (A.seq (A.reg (Pw.rn 5 (RA.spl 12 (Pw.sk 4 (Pw.rn 2 (Pw.sk 4 (Pw.rn 2 (Pw.sk 4 (Pw.rn 2 (Pw.sk 4 (Pw.rn 2 (Pw.sk 4 (Pw.rn 2 (Pw.sk 4 (RA.run RA.done)))))))))))) (Pw.rn 6 (RA.spl 18 (Pw.sk 4 (Pw.rn 2 (Pw.sk 4 (Pw.rn 2 (Pw.sk 4 (Pw.rn 2 (Pw.sk 4 (Pw.rn 2 (Pw.sk 4 (RA.run RA.done)))))))))) (Pw.rn 6 (RA.spl 24 (Pw.sk 4 (Pw.rn 2 (Pw.sk 4 (Pw.rn 2 (Pw.sk 4 (Pw.rn 2 (Pw.sk 4 (RA.run RA.done)))))))) (Pw.rn 6 (RA.spl 30 (Pw.sk 4 (Pw.rn 2 (Pw.sk 4 (Pw.rn 2 (Pw.sk 4 (RA.run RA.done)))))) (Pw.rn 6 (RA.spl 36 (Pw.sk 4 (Pw.rn 2 (Pw.sk 4 (RA.run RA.done)))) (Pw.rn 6 (RA.spl 42 (Pw.sk 4 (RA.run RA.done)) (Pw.rn 5 RA.done))))))))))))))
   (A.cond (A.seq (A.reg (RA.run RA.done))
   A.leaf)
   A.leaf))
   (A.seq (A.seq (A.reg (RA.run RA.done))
   (A.blk (A.loop [1, 3] (z2e_P0 Kv) (A.seq (A.seq (A.reg (Pw.rn 5 RA.done))
   (A.cond A.leaf
   A.leaf))
   (A.seq (A.blk (A.seq (A.reg (Pw.rn 7 RA.done))
   (A.seq (A.reg (Pw.rn 7 (RA.spl 66 (Pw.sk 4 (Pw.rn 2 (Pw.sk 4 (RA.run RA.done)))) (Pw.rn 6 (RA.spl 72 (Pw.sk 4 (RA.run RA.done)) (Pw.rn 5 RA.done))))))
   (A.cond (A.seq (A.reg (RA.run RA.done))
   A.leaf)
   A.leaf))))
   (A.reg (Pw.rn 3 RA.done)))))))
   (A.seq (A.seq (A.reg (RA.run RA.done))
   (A.blk (A.loop [1, 5] (z2e_P1 Kv) (A.seq (A.seq (A.reg (Pw.rn 5 RA.done))
   (A.cond A.leaf
   A.leaf))
   (A.seq (A.blk (A.seq (A.reg (Pw.rn 7 RA.done))
   (A.seq (A.seq (A.reg (Pw.rn 5 (RA.spl 94 (Pw.sk 4 (Pw.rn 2 (Pw.sk 4 (RA.run RA.done)))) (Pw.rn 6 (RA.spl 100 (Pw.sk 4 (RA.run RA.done)) (Pw.rn 5 RA.done))))))
   (A.cond (A.seq (A.reg (RA.run RA.done))
   A.leaf)
   A.leaf))
   (A.seq (A.reg (RA.run RA.done))
   (A.blk (A.loop [1, 5, 6, 7] (z2e_P2 Kv) (A.seq (A.seq (A.reg (Pw.rn 5 RA.done))
   (A.cond A.leaf
   A.leaf))
   (A.seq (A.blk (A.seq (A.drw (DA.pur 0 (DA.pur 1 (DA.pur 2 (DA.pur 3 (DA.pur 4 (DA.pur 5 (DA.pur 6 (DA.eff 7 (DA.pur 8 DA.done))))))))))
   (A.cond (A.seq (A.reg (RA.run RA.done))
   A.leaf)
   A.leaf)))
   (A.reg (Pw.rn 3 RA.done))))))))))
   (A.reg (Pw.rn 3 RA.done)))))))
   (A.seq (A.reg (RA.run RA.done))
   A.leaf)))))
noncomputable def z2e_O (Kv : VW) : List Ob := (obs Tryz.prog z2e_E 122 (z2e_A Kv) z2e_C (fun _ => retQ Tryz.prog Tryz.f62.results Kv))
theorem z2e_e (Kv : VW) (p_0_0p : Option Addr) (p_0_0l p_0_0c : Nat) (p_0_1p : Option Addr) (p_0_1l p_0_1c : Nat) (p_0_2p : Option Addr) (p_0_2l p_0_2c : Nat) (p_0_3 p_0_4 : Int) (w : World) : z2e_sd ⟨p_0_0p, p_0_0l, p_0_0c⟩ ⟨p_0_1p, p_0_1l, p_0_1c⟩ ⟨p_0_2p, p_0_2l, p_0_2c⟩ p_0_3 p_0_4 (Pw.kB Kv) w = W Tryz.prog z2e_E 122 (z2e_A Kv) z2e_C [] (retQ Tryz.prog Tryz.f62.results Kv) [] (startS [(Value.agg #[(Value.slice p_0_0p p_0_0l p_0_0c), (Value.slice p_0_1p p_0_1l p_0_1c), (Value.slice p_0_2p p_0_2l p_0_2c), (Value.int .i64 p_0_3), (Value.int .i64 p_0_4)])]) w := by kernel_rfl
theorem z2e_e0 (Kv : VW) (N0 : List Value -> World -> Prop) (ρ : Rho) (p_1 : Addr) (i_3 : Int) (w : World) : z2e_b0 p_1 i_3 (fun p_1' i_3' w' => N0 [(Value.pointer (some p_1')), (Value.int .i64 i_3')] w') (Pw.kB Kv) w = goalAt Tryz.prog z2e_E 122 (z2e_O Kv) 0 (N0 :: ρ) [(Value.pointer (some p_1)), (Value.int .i64 i_3)] w := by kernel_rfl
theorem z2e_q0 (Kv : VW) (ρ : Rho) (vs : List Value) (w : World) : labAt (z2e_O Kv) 0 ρ vs w = z2e_P0 Kv ρ vs w := by kernel_rfl
def z2e_I0 (p_10 : Addr) (I : Int -> World -> Prop) (vs : List Value) (w : World) : Prop :=
  match vs with
  | [.pointer (some p_1), .int .i64 i_3] => (p_1 = p_10 /\ True) /\ I i_3 w
  | _ => False
def z2e_M0 (μ : Int -> World -> Nat) (vs : List Value) (w : World) : Nat :=
  match vs with
  | [.pointer (some _p_1), .int .i64 i_3] => μ i_3 w
  | _ => 0
theorem z2e_h0 (Kv : VW) : holdsAt Tryz.prog z2e_E 122 (z2e_O Kv) 0 := holdsAt_loop (by kernel_rfl) (fun ρ vs w h => by
  rw [z2e_q0] at h
  unfold z2e_P0 at h
  split at h
  . rename_i ρt p_1 i_3
    obtain ⟨I, μ, h0, hr⟩ := h.out
    refine ⟨z2e_I0 p_1 I, z2e_M0 μ, ⟨⟨rfl, trivial⟩, h0⟩, fun vs w hI => ?_⟩
    unfold z2e_I0 at hI
    split at hI
    . obtain ⟨⟨h0, _⟩, hI⟩ := hI
      cases h0
      rw [← z2e_e0]
      exact hr _ _ hI
    . exact hI.elim
  . exact h.elim)
theorem z2e_e1 (Kv : VW) (N1 : List Value -> World -> Prop) (ρ : Rho) (p_1 : Addr) (i_5 : Int) (w : World) : z2e_b1 p_1 i_5 (fun p_1' i_5' w' => N1 [(Value.pointer (some p_1')), (Value.int .i64 i_5')] w') (Pw.kB Kv) w = goalAt Tryz.prog z2e_E 122 (z2e_O Kv) 1 (N1 :: ρ) [(Value.pointer (some p_1)), (Value.int .i64 i_5)] w := by kernel_rfl
theorem z2e_q1 (Kv : VW) (ρ : Rho) (vs : List Value) (w : World) : labAt (z2e_O Kv) 1 ρ vs w = z2e_P1 Kv ρ vs w := by kernel_rfl
def z2e_I1 (p_10 : Addr) (I : Int -> World -> Prop) (vs : List Value) (w : World) : Prop :=
  match vs with
  | [.pointer (some p_1), .int .i64 i_5] => (p_1 = p_10 /\ True) /\ I i_5 w
  | _ => False
def z2e_M1 (μ : Int -> World -> Nat) (vs : List Value) (w : World) : Nat :=
  match vs with
  | [.pointer (some _p_1), .int .i64 i_5] => μ i_5 w
  | _ => 0
theorem z2e_h1 (Kv : VW) : holdsAt Tryz.prog z2e_E 122 (z2e_O Kv) 1 := holdsAt_loop (by kernel_rfl) (fun ρ vs w h => by
  rw [z2e_q1] at h
  unfold z2e_P1 at h
  split at h
  . rename_i ρt p_1 i_5
    obtain ⟨I, μ, h0, hr⟩ := h.out
    refine ⟨z2e_I1 p_1 I, z2e_M1 μ, ⟨⟨rfl, trivial⟩, h0⟩, fun vs w hI => ?_⟩
    unfold z2e_I1 at hI
    split at hI
    . obtain ⟨⟨h0, _⟩, hI⟩ := hI
      cases h0
      rw [← z2e_e1]
      exact hr _ _ hI
    . exact hI.elim
  . exact h.elim)
theorem z2e_e2 (Kv : VW) (N2 N1 : List Value -> World -> Prop) (ρ : Rho) (p_1 : Addr) (i_5 : Int) (d_6 : Addr) (k_7 : Int) (w : World) : z2e_b2 p_1 i_5 d_6 k_7 (fun p_1' i_5' d_6' k_7' w' => N2 [(Value.pointer (some p_1')), (Value.int .i64 i_5'), (Value.pointer (some d_6')), (Value.int .i64 k_7')] w') (fun p_1' i_5' w' => N1 [(Value.pointer (some p_1')), (Value.int .i64 i_5')] w') (Pw.kB Kv) w = goalAt Tryz.prog z2e_E 122 (z2e_O Kv) 2 (N2 :: N1 :: ρ) [(Value.pointer (some p_1)), (Value.int .i64 i_5), (Value.pointer (some d_6)), (Value.int .i64 k_7)] w := by kernel_rfl
theorem z2e_q2 (Kv : VW) (ρ : Rho) (vs : List Value) (w : World) : labAt (z2e_O Kv) 2 ρ vs w = z2e_P2 Kv ρ vs w := by kernel_rfl
def z2e_I2 (p_10 : Addr) (i_50 : Int) (d_60 : Addr) (I : Int -> World -> Prop) (vs : List Value) (w : World) : Prop :=
  match vs with
  | [.pointer (some p_1), .int .i64 i_5, .pointer (some d_6), .int .i64 k_7] => (p_1 = p_10 /\ i_5 = i_50 /\ d_6 = d_60 /\ True) /\ I k_7 w
  | _ => False
def z2e_M2 (μ : Int -> World -> Nat) (vs : List Value) (w : World) : Nat :=
  match vs with
  | [.pointer (some _p_1), .int .i64 _i_5, .pointer (some _d_6), .int .i64 k_7] => μ k_7 w
  | _ => 0
theorem z2e_h2 (Kv : VW) : holdsAt Tryz.prog z2e_E 122 (z2e_O Kv) 2 := holdsAt_loop (by kernel_rfl) (fun ρ vs w h => by
  rw [z2e_q2] at h
  unfold z2e_P2 at h
  split at h
  . rename_i N1 ρt p_1 i_5 d_6 k_7
    obtain ⟨I, μ, h0, hr⟩ := h.out
    refine ⟨z2e_I2 p_1 i_5 d_6 I, z2e_M2 μ, ⟨⟨rfl, rfl, rfl, trivial⟩, h0⟩, fun vs w hI => ?_⟩
    unfold z2e_I2 at hI
    split at hI
    . obtain ⟨⟨h0, h1, h2, _⟩, hI⟩ := hI
      cases h0; cases h1; cases h2
      rw [← z2e_e2]
      exact hr _ _ hI
    . exact hI.elim
  . exact h.elim)
theorem z2e_n (Kv : VW) : obAt (z2e_O Kv) 3 = none := by kernel_rfl
theorem z2e_h (Kv : VW) : ∀ k, holdsAt Tryz.prog z2e_E 122 (z2e_O Kv) k := fun k => match k with
  | 0 => z2e_h0 Kv
  | 1 => z2e_h1 Kv
  | 2 => z2e_h2 Kv
  | _k + 3 => holdsAt_ge (z2e_n Kv) (Nat.le_add_left _ _)
theorem z2e_ok : Sound Tryz.prog 62 z2e_S := ⟨Tryz.call62, fun vs w Kv h => by
  unfold z2e_S at h
  split at h
  . have h := h.out
    rw [z2e_e] at h
    exact calls_sound (Γ := z2e_E) progMixed ⟨.inl z0u_ok, .inl z28_ok, .inl z12_ok, trivial⟩ Tryz.func62 (code := z2e_C) (by kernel_rfl) (z2e_A Kv) Kv (holds_all (z2e_h Kv)) (Nat.le_of_ble_eq_true (by kernel_rfl)) h
  . exact h.elim⟩
/-! Rf_Prefix -/
def z20_b0 (f_1 : Sl) (p_2 : Addr) (i_5 : Int) (N0 : Sl -> Addr -> Int -> World -> Prop) (K : Pw.T0) (w : World) : Prop :=
  cnd (decide (i_5 < (f_1.l : Int)))
    (let w3 := w.drew
  nz f_1.p fun a4 => (0 <= i_5 /\ i_5 < (f_1.l : Nat)) /\ ∃ x5 : Int, w3.cell? (a4.add (i_5.toNat * 1)) = some (Value.int .i64 x5) /\ cnd (decide (x5 < (-1 : Int)))
    (K false w3)
    (nz f_1.p fun a6 => (0 <= i_5 /\ i_5 < (f_1.l : Nat)) /\ ∃ x7 : Int, w3.cell? (a6.add (i_5.toNat * 1)) = some (Value.int .i64 x7) /\ ∃ x8 : Sl, w3.cell? (p_2.add 1) = some (Value.slice x8.p x8.l x8.c) /\ cnd (decide (x7 >= (x8.l : Int)))
    (K false w3)
    (nz f_1.p fun a9 => (0 <= i_5 /\ i_5 < (f_1.l : Nat)) /\ ∃ x10 : Int, w3.cell? (a9.add (i_5.toNat * 1)) = some (Value.int .i64 x10) /\ cnd (decide (x10 >= (0 : Int)))
    (∃ x11 : Sl, w3.cell? (p_2.add 1) = some (Value.slice x11.p x11.l x11.c) /\ nz f_1.p fun a12 => (0 <= i_5 /\ i_5 < (f_1.l : Nat)) /\ ∃ x13 : Int, w3.cell? (a12.add (i_5.toNat * 1)) = some (Value.int .i64 x13) /\ nz x11.p fun a14 => (0 <= x13 /\ x13 < (x11.l : Nat)) /\ ∃ x15 : Int, w3.cell? (a14.add (x13.toNat * 4)) = some (Value.int .i64 x15) /\ ∃ x16 : Sl, w3.cell? p_2 = some (Value.slice x16.p x16.l x16.c) /\ nz x16.p fun a17 => (0 <= i_5 /\ i_5 < (x16.l : Nat)) /\ ∃ x18 : Int, w3.cell? (a17.add (i_5.toNat * 1)) = some (Value.int .i64 x18) /\ cnd (x15 != x18)
    (K false w3)
    (inR .i64 (i_5 + (1 : Int)) /\ N0 f_1 p_2 (i_5 + (1 : Int)) w3))
    (inR .i64 (i_5 + (1 : Int)) /\ N0 f_1 p_2 (i_5 + (1 : Int)) w3))))
    (K true w)
def z20_l0d (f_1 : Sl) (p_2 : Addr) (i_5 : Int) (K : Pw.T0) (w : World) : Prop :=
  ∃ (I : Int -> World -> Prop) (μ : Int -> World -> Nat), I i_5 w /\ ∀ (i_51 : Int) (w1 : World), I i_51 w1 ->
    z20_b0 f_1 p_2 i_51 (fun f_1' p_2' i_5' w' => ((f_1' = f_1 /\ p_2' = p_2 /\ True) /\ I i_5' w') /\ μ i_5' w' < μ i_51 w1) K w1
structure z20_l0 (f_1 : Sl) (p_2 : Addr) (i_5 : Int) (K : Pw.T0) (w : World) : Prop where
  out : z20_l0d f_1 p_2 i_5 K w
def z20_sd (p_0_0 p_0_1 p_0_2 : Sl) (p_0_3 p_0_4 : Int) (f_1 : Sl) (K : Pw.T0) (w : World) : Prop :=
  let w1 := w.alloc (Obj.cells #[(Value.slice p_0_0.p p_0_0.l p_0_0.c), (Value.slice p_0_1.p p_0_1.l p_0_1.c), (Value.slice p_0_2.p p_0_2.l p_0_2.c), (Value.int .i64 p_0_3), (Value.int .i64 p_0_4)] 27)
  ∃ x2 : Sl, w1.cell? (Addr.mk w.heap.size 0 none) = some (Value.slice x2.p x2.l x2.c) /\ cnd (decide ((f_1.l : Int) > (x2.l : Int)))
    (K false w1)
    (z20_l0 f_1 (Addr.mk w.heap.size 0 none) (0 : Int) K w1)
structure z20_sh (p_0_0 p_0_1 p_0_2 : Sl) (p_0_3 p_0_4 : Int) (f_1 : Sl) (K : Pw.T0) (w : World) : Prop where
  out : z20_sd p_0_0 p_0_1 p_0_2 p_0_3 p_0_4 f_1 K w
def z20_P0 (Kv : VW) (ρ : Rho) (vs : List Value) (w : World) : Prop :=
  match ρ, vs with
  | _, [.slice f_1p f_1l f_1c, .pointer (some p_2), .int .i64 i_5] => z20_l0 ⟨f_1p, f_1l, f_1c⟩ p_2 i_5 (Pw.kB Kv) w
  | _, _ => False
noncomputable def z20_S : Pw.Spec := fun vs w Kv =>
  match vs with
  | [.agg ⟨[.slice p_0_0p p_0_0l p_0_0c, .slice p_0_1p p_0_1l p_0_1c, .slice p_0_2p p_0_2l p_0_2c, .int .i64 p_0_3, .int .i64 p_0_4]⟩, .slice f_1p f_1l f_1c] => z20_sh ⟨p_0_0p, p_0_0l, p_0_0c⟩ ⟨p_0_1p, p_0_1l, p_0_1c⟩ ⟨p_0_2p, p_0_2l, p_0_2c⟩ p_0_3 p_0_4 ⟨f_1p, f_1l, f_1c⟩ (Pw.kB Kv) w
  | _ => False
noncomputable def z20_E : Pw.Env := []
noncomputable def z20_C : Code := (Tryz.f63.body).getD .skip
noncomputable def z20_A (Kv : VW) : Pw.A :=
  (A.seq (A.reg (Pw.rn 2 RA.done))
   (A.seq (A.seq (A.reg (Pw.rn 6 RA.done))
   (A.cond (A.seq (A.reg (RA.run RA.done))
   A.leaf)
   A.leaf))
   (A.seq (A.seq (A.reg (RA.run RA.done))
   (A.blk (A.loop [1, 2, 5] (z20_P0 Kv) (A.seq (A.seq (A.reg (Pw.rn 4 RA.done))
   (A.cond A.leaf
   A.leaf))
   (A.seq (A.blk (A.seq (A.drp (DA.pur 0 (DA.pur 1 (DA.pur 2 (DA.pur 3 (DA.pur 4 (DA.pur 5 (DA.spl 23 (DA.skp 6 (DA.skp 7 (DA.skp 8 (DA.skp 9 (DA.skp 10 (DA.skp 11 (DA.skp 12 (DA.skp 13 (DA.pur 14 (DA.pur 15 (DA.skp 16 (DA.skp 17 (DA.skp 18 (DA.skp 19 (DA.skp 20 (DA.skp 21 (DA.skp 22 (DA.skp 23 (DA.skp 24 (DA.skp 25 (DA.skp 26 (DA.skp 27 (DA.skp 28 (DA.skp 29 (DA.skp 30 (DA.skp 31 (DA.skp 32 (DA.skp 33 (DA.skp 34 (DA.skp 35 (DA.skp 36 (DA.skp 37 (DA.pur 38 DA.done))))))))))))))))))))))))))))))))) (DA.pur 6 (DA.pur 7 (DA.pur 8 (DA.pur 9 (DA.pur 10 (DA.pur 11 (DA.pur 12 (DA.pur 13 (DA.pur 14 (DA.pur 15 (DA.spl 33 (DA.skp 16 (DA.skp 17 (DA.skp 18 (DA.skp 19 (DA.skp 20 (DA.skp 21 (DA.skp 22 (DA.skp 23 (DA.skp 24 (DA.skp 25 (DA.skp 26 (DA.skp 27 (DA.skp 28 (DA.skp 29 (DA.skp 30 (DA.skp 31 (DA.skp 32 (DA.skp 33 (DA.skp 34 (DA.skp 35 (DA.skp 36 (DA.skp 37 (DA.pur 38 DA.done))))))))))))))))))))))) (DA.pur 16 (DA.pur 17 (DA.pur 18 (DA.pur 19 (DA.pur 20 (DA.pur 21 (DA.spl 39 (DA.pur 22 (DA.pur 23 (DA.pur 24 (DA.pur 25 (DA.pur 26 (DA.pur 27 (DA.pur 28 (DA.pur 29 (DA.pur 30 (DA.pur 31 (DA.pur 32 (DA.pur 33 (DA.pur 34 (DA.pur 35 (DA.pur 36 (DA.pur 37 (DA.pur 38 DA.done))))))))))))))))) (DA.skp 22 (DA.skp 23 (DA.skp 24 (DA.skp 25 (DA.skp 26 (DA.skp 27 (DA.skp 28 (DA.skp 29 (DA.skp 30 (DA.skp 31 (DA.skp 32 (DA.skp 33 (DA.skp 34 (DA.skp 35 (DA.skp 36 (DA.pur 37 (DA.pur 38 DA.done)))))))))))))))))))))))))))))))))))))))))))
   (A.cond (A.seq (A.reg (RA.run RA.done))
   A.leaf)
   A.leaf)))
   (A.reg (Pw.rn 3 RA.done)))))))
   (A.seq (A.reg (RA.run RA.done))
   A.leaf))))
noncomputable def z20_O (Kv : VW) : List Ob := (obs Tryz.prog z20_E 57 (z20_A Kv) z20_C (fun _ => retQ Tryz.prog Tryz.f63.results Kv))
theorem z20_e (Kv : VW) (p_0_0p : Option Addr) (p_0_0l p_0_0c : Nat) (p_0_1p : Option Addr) (p_0_1l p_0_1c : Nat) (p_0_2p : Option Addr) (p_0_2l p_0_2c : Nat) (p_0_3 p_0_4 : Int) (f_1p : Option Addr) (f_1l f_1c : Nat) (w : World) : z20_sd ⟨p_0_0p, p_0_0l, p_0_0c⟩ ⟨p_0_1p, p_0_1l, p_0_1c⟩ ⟨p_0_2p, p_0_2l, p_0_2c⟩ p_0_3 p_0_4 ⟨f_1p, f_1l, f_1c⟩ (Pw.kB Kv) w = W Tryz.prog z20_E 57 (z20_A Kv) z20_C [] (retQ Tryz.prog Tryz.f63.results Kv) [] (startS [(Value.agg #[(Value.slice p_0_0p p_0_0l p_0_0c), (Value.slice p_0_1p p_0_1l p_0_1c), (Value.slice p_0_2p p_0_2l p_0_2c), (Value.int .i64 p_0_3), (Value.int .i64 p_0_4)]), (Value.slice f_1p f_1l f_1c)]) w := by kernel_rfl
theorem z20_e0 (Kv : VW) (N0 : List Value -> World -> Prop) (ρ : Rho) (f_1p : Option Addr) (f_1l f_1c : Nat) (p_2 : Addr) (i_5 : Int) (w : World) : z20_b0 ⟨f_1p, f_1l, f_1c⟩ p_2 i_5 (fun f_1' p_2' i_5' w' => N0 [(Value.slice f_1'.p f_1'.l f_1'.c), (Value.pointer (some p_2')), (Value.int .i64 i_5')] w') (Pw.kB Kv) w = goalAt Tryz.prog z20_E 57 (z20_O Kv) 0 (N0 :: ρ) [(Value.slice f_1p f_1l f_1c), (Value.pointer (some p_2)), (Value.int .i64 i_5)] w := by kernel_rfl
theorem z20_q0 (Kv : VW) (ρ : Rho) (vs : List Value) (w : World) : labAt (z20_O Kv) 0 ρ vs w = z20_P0 Kv ρ vs w := by kernel_rfl
def z20_I0 (f_10 : Sl) (p_20 : Addr) (I : Int -> World -> Prop) (vs : List Value) (w : World) : Prop :=
  match vs with
  | [.slice f_1p f_1l f_1c, .pointer (some p_2), .int .i64 i_5] => (⟨f_1p, f_1l, f_1c⟩ = f_10 /\ p_2 = p_20 /\ True) /\ I i_5 w
  | _ => False
def z20_M0 (μ : Int -> World -> Nat) (vs : List Value) (w : World) : Nat :=
  match vs with
  | [.slice _f_1p _f_1l _f_1c, .pointer (some _p_2), .int .i64 i_5] => μ i_5 w
  | _ => 0
theorem z20_h0 (Kv : VW) : holdsAt Tryz.prog z20_E 57 (z20_O Kv) 0 := holdsAt_loop (by kernel_rfl) (fun ρ vs w h => by
  rw [z20_q0] at h
  unfold z20_P0 at h
  split at h
  . rename_i ρt f_1p f_1l f_1c p_2 i_5
    obtain ⟨I, μ, h0, hr⟩ := h.out
    refine ⟨z20_I0 ⟨f_1p, f_1l, f_1c⟩ p_2 I, z20_M0 μ, ⟨⟨rfl, rfl, trivial⟩, h0⟩, fun vs w hI => ?_⟩
    unfold z20_I0 at hI
    split at hI
    . obtain ⟨⟨h0, h1, _⟩, hI⟩ := hI
      cases h0; cases h1
      rw [← z20_e0]
      exact hr _ _ hI
    . exact hI.elim
  . exact h.elim)
theorem z20_n (Kv : VW) : obAt (z20_O Kv) 1 = none := by kernel_rfl
theorem z20_h (Kv : VW) : ∀ k, holdsAt Tryz.prog z20_E 57 (z20_O Kv) k := fun k => match k with
  | 0 => z20_h0 Kv
  | _k + 1 => holdsAt_ge (z20_n Kv) (Nat.le_add_left _ _)
theorem z20_ok : Sound Tryz.prog 63 z20_S := ⟨Tryz.call63, fun vs w Kv h => by
  unfold z20_S at h
  split at h
  . have h := h.out
    rw [z20_e] at h
    exact calls_sound (Γ := z20_E) progMixed trivial Tryz.func63 (code := z20_C) (by kernel_rfl) (z20_A Kv) Kv (holds_all (z20_h Kv)) (Nat.le_of_ble_eq_true (by kernel_rfl)) h
  . exact h.elim⟩
/-! Rf_take -/
def z2w_sd (p_0_0 p_0_1 p_0_2 : Sl) (p_0_3 p_0_4 : Int) (f_1 : Sl) (K : Pw.T0) (w : World) : Prop :=
  let w1 := w.alloc (Obj.cells #[(Value.slice p_0_0.p p_0_0.l p_0_0.c), (Value.slice p_0_1.p p_0_1.l p_0_1.c), (Value.slice p_0_2.p p_0_2.l p_0_2.c), (Value.int .i64 p_0_3), (Value.int .i64 p_0_4)] 27)
  ∃ x2 : Sl, w1.cell? (Addr.mk w.heap.size 0 none) = some (Value.slice x2.p x2.l x2.c) /\ ∃ x3 : Sl, w1.cell? (Addr.mk w.heap.size 1 none) = some (Value.slice x3.p x3.l x3.c) /\ ∃ x4 : Sl, w1.cell? (Addr.mk w.heap.size 2 none) = some (Value.slice x4.p x4.l x4.c) /\ ∃ x5 : Int, w1.cell? (Addr.mk w.heap.size 3 none) = some (Value.int .i64 x5) /\ ∃ x6 : Int, w1.cell? (Addr.mk w.heap.size 4 none) = some (Value.int .i64 x6) /\ z2e_sh x2 x3 x4 x5 x6 (fun r8 w7 => cnd r8
    (∃ x9 : Sl, w7.cell? (Addr.mk w.heap.size 0 none) = some (Value.slice x9.p x9.l x9.c) /\ ∃ x10 : Sl, w7.cell? (Addr.mk w.heap.size 1 none) = some (Value.slice x10.p x10.l x10.c) /\ ∃ x11 : Sl, w7.cell? (Addr.mk w.heap.size 2 none) = some (Value.slice x11.p x11.l x11.c) /\ ∃ x12 : Int, w7.cell? (Addr.mk w.heap.size 3 none) = some (Value.int .i64 x12) /\ ∃ x13 : Int, w7.cell? (Addr.mk w.heap.size 4 none) = some (Value.int .i64 x13) /\ z20_sh x9 x10 x11 x12 x13 f_1 (fun r15 w14 => cnd r15
    (∃ x16 : Sl, w14.cell? (Addr.mk w.heap.size 0 none) = some (Value.slice x16.p x16.l x16.c) /\ K ((f_1.l : Int) == (x16.l : Int)) w14)
    (K false w14)) w7)
    (K false w7)) w1
structure z2w_sh (p_0_0 p_0_1 p_0_2 : Sl) (p_0_3 p_0_4 : Int) (f_1 : Sl) (K : Pw.T0) (w : World) : Prop where
  out : z2w_sd p_0_0 p_0_1 p_0_2 p_0_3 p_0_4 f_1 K w
noncomputable def z2w_S : Pw.Spec := fun vs w Kv =>
  match vs with
  | [.agg ⟨[.slice p_0_0p p_0_0l p_0_0c, .slice p_0_1p p_0_1l p_0_1c, .slice p_0_2p p_0_2l p_0_2c, .int .i64 p_0_3, .int .i64 p_0_4]⟩, .slice f_1p f_1l f_1c] => z2w_sh ⟨p_0_0p, p_0_0l, p_0_0c⟩ ⟨p_0_1p, p_0_1l, p_0_1c⟩ ⟨p_0_2p, p_0_2l, p_0_2c⟩ p_0_3 p_0_4 ⟨f_1p, f_1l, f_1c⟩ (Pw.kB Kv) w
  | _ => False
noncomputable def z2w_E : Pw.Env := [(62, z2e_S), (63, z20_S)]
noncomputable def z2w_C : Code := (Tryz.f35.body).getD .skip
noncomputable def z2w_A (_Kv : VW) : Pw.A :=
  (A.seq (A.reg (Pw.rn 2 RA.done))
   (A.seq (A.reg (Pw.rn 3 RA.done))
   (A.seq (A.reg (Pw.rn 2 (RA.spl 9 (Pw.rn 5 (RA.spl 14 (Pw.rn 8 RA.done) (Pw.sk 6 (Pw.rn 2 RA.done)))) (Pw.sk 3 (Pw.rn 2 (Pw.sk 6 (Pw.rn 2 RA.done)))))))
   A.leaf)))
noncomputable def z2w_O (Kv : VW) : List Ob := (obs Tryz.prog z2w_E 22 (z2w_A Kv) z2w_C (fun _ => retQ Tryz.prog Tryz.f35.results Kv))
theorem z2w_e (Kv : VW) (p_0_0p : Option Addr) (p_0_0l p_0_0c : Nat) (p_0_1p : Option Addr) (p_0_1l p_0_1c : Nat) (p_0_2p : Option Addr) (p_0_2l p_0_2c : Nat) (p_0_3 p_0_4 : Int) (f_1p : Option Addr) (f_1l f_1c : Nat) (w : World) : z2w_sd ⟨p_0_0p, p_0_0l, p_0_0c⟩ ⟨p_0_1p, p_0_1l, p_0_1c⟩ ⟨p_0_2p, p_0_2l, p_0_2c⟩ p_0_3 p_0_4 ⟨f_1p, f_1l, f_1c⟩ (Pw.kB Kv) w = W Tryz.prog z2w_E 22 (z2w_A Kv) z2w_C [] (retQ Tryz.prog Tryz.f35.results Kv) [] (startS [(Value.agg #[(Value.slice p_0_0p p_0_0l p_0_0c), (Value.slice p_0_1p p_0_1l p_0_1c), (Value.slice p_0_2p p_0_2l p_0_2c), (Value.int .i64 p_0_3), (Value.int .i64 p_0_4)]), (Value.slice f_1p f_1l f_1c)]) w := by kernel_rfl
theorem z2w_n (Kv : VW) : obAt (z2w_O Kv) 0 = none := by kernel_rfl
theorem z2w_h (Kv : VW) : ∀ k, holdsAt Tryz.prog z2w_E 22 (z2w_O Kv) k := fun _ => holdsAt_ge (z2w_n Kv) (Nat.zero_le _)
theorem z2w_ok : Sound Tryz.prog 35 z2w_S := ⟨Tryz.call35, fun vs w Kv h => by
  unfold z2w_S at h
  split at h
  . have h := h.out
    rw [z2w_e] at h
    exact calls_sound (Γ := z2w_E) progMixed ⟨.inl z2e_ok, .inl z20_ok, trivial⟩ Tryz.func35 (code := z2w_C) (by kernel_rfl) (z2w_A Kv) Kv (holds_all (z2w_h Kv)) (Nat.le_of_ble_eq_true (by kernel_rfl)) h
  . exact h.elim⟩
/-! Rf_possible -/
def z13_k2d (f_1 : Sl) (p_3 d_5 : Addr) (i_7 : Int) (fine_8 : Bool) (N0 : Sl -> Addr -> Addr -> Int -> World -> Prop) (K : Pw.T0) (w : World) : Prop :=
  cnd (!fine_8)
    (K false w)
    (inR .i64 (i_7 + (1 : Int)) /\ N0 f_1 p_3 d_5 (i_7 + (1 : Int)) w)
structure z13_k2 (f_1 : Sl) (p_3 d_5 : Addr) (i_7 : Int) (fine_8 : Bool) (N0 : Sl -> Addr -> Addr -> Int -> World -> Prop) (K : Pw.T0) (w : World) : Prop where
  out : z13_k2d f_1 p_3 d_5 i_7 fine_8 N0 K w
def z13_b1 (f_1 : Sl) (p_3 d_5 : Addr) (i_7 : Int) (fine_8 : Bool) (k_9 : Int) (N1 : Sl -> Addr -> Addr -> Int -> Bool -> Int -> World -> Prop) (N0 : Sl -> Addr -> Addr -> Int -> World -> Prop) (K : Pw.T0) (w : World) : Prop :=
  ∃ x21 : Sl, w.cell? (p_3.add 1) = some (Value.slice x21.p x21.l x21.c) /\ cnd (decide (k_9 < (x21.l : Int)))
    (let w22 := w.drew
  cnd fine_8
    (inR .i64 (k_9 + (1 : Int)) /\ N1 f_1 p_3 d_5 i_7 true (k_9 + (1 : Int)) w22)
    (∃ x23 : Sl, w22.cell? (p_3.add 1) = some (Value.slice x23.p x23.l x23.c) /\ nz x23.p fun a24 => (0 <= k_9 /\ k_9 < (x23.l : Nat)) /\ ∃ x25 : Int, w22.cell? (a24.add (k_9.toNat * 4)) = some (Value.int .i64 x25) /\ ∃ x26 : Sl, w22.cell? p_3 = some (Value.slice x26.p x26.l x26.c) /\ nz x26.p fun a27 => (0 <= i_7 /\ i_7 < (x26.l : Nat)) /\ ∃ x28 : Int, w22.cell? (a27.add (i_7.toNat * 1)) = some (Value.int .i64 x28) /\ cnd (x25 == x28)
    (∃ x29 : Sl, w22.cell? (p_3.add 1) = some (Value.slice x29.p x29.l x29.c) /\ nz x29.p fun a30 => (0 <= k_9 /\ k_9 < (x29.l : Nat)) /\ ∃ x31 : Int, w22.cell? ((a30.add (k_9.toNat * 4)).add 1) = some (Value.int .i64 x31) /\ ∃ x32 : Int, w22.cell? d_5 = some (Value.int .i64 x32) /\ inR .i64 (k_9 + (1 : Int)) /\ N1 f_1 p_3 d_5 i_7 (x31 == x32) (k_9 + (1 : Int)) w22)
    (inR .i64 (k_9 + (1 : Int)) /\ N1 f_1 p_3 d_5 i_7 false (k_9 + (1 : Int)) w22)))
    (z13_k2 f_1 p_3 d_5 i_7 fine_8 N0 K w)
def z13_l1d (f_1 : Sl) (p_3 d_5 : Addr) (i_7 : Int) (fine_8 : Bool) (k_9 : Int) (N0 : Sl -> Addr -> Addr -> Int -> World -> Prop) (K : Pw.T0) (w : World) : Prop :=
  ∃ (I : Bool -> Int -> World -> Prop) (μ : Bool -> Int -> World -> Nat), I fine_8 k_9 w /\ ∀ (fine_81 : Bool) (k_91 : Int) (w1 : World), I fine_81 k_91 w1 ->
    z13_b1 f_1 p_3 d_5 i_7 fine_81 k_91 (fun f_1' p_3' d_5' i_7' fine_8' k_9' w' => ((f_1' = f_1 /\ p_3' = p_3 /\ d_5' = d_5 /\ i_7' = i_7 /\ True) /\ I fine_8' k_9' w') /\ μ fine_8' k_9' w' < μ fine_81 k_91 w1) N0 K w1
structure z13_l1 (f_1 : Sl) (p_3 d_5 : Addr) (i_7 : Int) (fine_8 : Bool) (k_9 : Int) (N0 : Sl -> Addr -> Addr -> Int -> World -> Prop) (K : Pw.T0) (w : World) : Prop where
  out : z13_l1d f_1 p_3 d_5 i_7 fine_8 k_9 N0 K w
def z13_b0 (f_1 : Sl) (p_3 d_5 : Addr) (i_7 : Int) (N0 : Sl -> Addr -> Addr -> Int -> World -> Prop) (K : Pw.T0) (w : World) : Prop :=
  ∃ x3 : Sl, w.cell? p_3 = some (Value.slice x3.p x3.l x3.c) /\ cnd (decide (i_7 < (x3.l : Int)))
    (let w4 := w.drew
  ∃ S5 : World -> Prop, S5 w4 /\ ∃ x6 : Sl, (∀ w' : World, S5 w' -> w'.cell? (d_5.add 1) = some (Value.slice x6.p x6.l x6.c)) /\ ∃ x7 : Sl, (∀ w' : World, S5 w' -> w'.cell? p_3 = some (Value.slice x7.p x7.l x7.c)) /\ nz x7.p fun a8 => (0 <= i_7 /\ i_7 < (x7.l : Nat)) /\ ∃ x9 : Int, (∀ w' : World, S5 w' -> w'.cell? (a8.add (i_7.toNat * 1)) = some (Value.int .i64 x9)) /\ z12_sh x6 x9 (fun r11 w10 => S5 w10 /\ cnd (!r11)
    (inR .i64 (i_7 + (1 : Int)) /\ N0 f_1 p_3 d_5 (i_7 + (1 : Int)) w10)
    (cnd (decide (i_7 < (f_1.l : Int)))
    (let w12 := w10.drew
  nz f_1.p fun a13 => (0 <= i_7 /\ i_7 < (f_1.l : Nat)) /\ ∃ x14 : Int, w12.cell? (a13.add (i_7.toNat * 1)) = some (Value.int .i64 x14) /\ cnd (decide (x14 >= (0 : Int)))
    (∃ x15 : Sl, w12.cell? (p_3.add 1) = some (Value.slice x15.p x15.l x15.c) /\ nz f_1.p fun a16 => (0 <= i_7 /\ i_7 < (f_1.l : Nat)) /\ ∃ x17 : Int, w12.cell? (a16.add (i_7.toNat * 1)) = some (Value.int .i64 x17) /\ nz x15.p fun a18 => (0 <= x17 /\ x17 < (x15.l : Nat)) /\ ∃ x19 : Int, w12.cell? ((a18.add (x17.toNat * 4)).add 1) = some (Value.int .i64 x19) /\ ∃ x20 : Int, w12.cell? d_5 = some (Value.int .i64 x20) /\ z13_k2 f_1 p_3 d_5 i_7 (x19 == x20) N0 K w12)
    (z13_k2 f_1 p_3 d_5 i_7 false N0 K w12))
    (z13_l1 f_1 p_3 d_5 i_7 false (0 : Int) N0 K w10))) w4)
    (K true w)
def z13_l0d (f_1 : Sl) (p_3 d_5 : Addr) (i_7 : Int) (K : Pw.T0) (w : World) : Prop :=
  ∃ (I : Int -> World -> Prop) (μ : Int -> World -> Nat), I i_7 w /\ ∀ (i_71 : Int) (w1 : World), I i_71 w1 ->
    z13_b0 f_1 p_3 d_5 i_71 (fun f_1' p_3' d_5' i_7' w' => ((f_1' = f_1 /\ p_3' = p_3 /\ d_5' = d_5 /\ True) /\ I i_7' w') /\ μ i_7' w' < μ i_71 w1) K w1
structure z13_l0 (f_1 : Sl) (p_3 d_5 : Addr) (i_7 : Int) (K : Pw.T0) (w : World) : Prop where
  out : z13_l0d f_1 p_3 d_5 i_7 K w
def z13_sd (p_0_0 p_0_1 p_0_2 : Sl) (p_0_3 p_0_4 : Int) (f_1 : Sl) (d_2_0 : Int) (d_2_1 : Sl) (d_2_2 : Int) (K : Pw.T0) (w : World) : Prop :=
  let w1 := w.alloc (Obj.cells #[(Value.slice p_0_0.p p_0_0.l p_0_0.c), (Value.slice p_0_1.p p_0_1.l p_0_1.c), (Value.slice p_0_2.p p_0_2.l p_0_2.c), (Value.int .i64 p_0_3), (Value.int .i64 p_0_4)] 27)
  let w2 := w1.alloc (Obj.cells #[(Value.int .i64 d_2_0), (Value.slice d_2_1.p d_2_1.l d_2_1.c), (Value.int .i64 d_2_2)] 67)
  z13_l0 f_1 (Addr.mk w.heap.size 0 none) (Addr.mk w1.heap.size 0 none) (0 : Int) K w2
structure z13_sh (p_0_0 p_0_1 p_0_2 : Sl) (p_0_3 p_0_4 : Int) (f_1 : Sl) (d_2_0 : Int) (d_2_1 : Sl) (d_2_2 : Int) (K : Pw.T0) (w : World) : Prop where
  out : z13_sd p_0_0 p_0_1 p_0_2 p_0_3 p_0_4 f_1 d_2_0 d_2_1 d_2_2 K w
def z13_P0 (Kv : VW) (ρ : Rho) (vs : List Value) (w : World) : Prop :=
  match ρ, vs with
  | _, [.slice f_1p f_1l f_1c, .pointer (some p_3), .pointer (some d_5), .int .i64 i_7] => z13_l0 ⟨f_1p, f_1l, f_1c⟩ p_3 d_5 i_7 (Pw.kB Kv) w
  | _, _ => False
def z13_P1 (Kv : VW) (ρ : Rho) (vs : List Value) (w : World) : Prop :=
  match ρ, vs with
  | N0 :: _, [.slice f_1p f_1l f_1c, .pointer (some p_3), .pointer (some d_5), .int .i64 i_7, .bool fine_8, .int .i64 k_9] => z13_l1 ⟨f_1p, f_1l, f_1c⟩ p_3 d_5 i_7 fine_8 k_9 (fun f_1' p_3' d_5' i_7' w' => N0 [(Value.slice f_1'.p f_1'.l f_1'.c), (Value.pointer (some p_3')), (Value.pointer (some d_5')), (Value.int .i64 i_7')] w') (Pw.kB Kv) w
  | _, _ => False
def z13_P2 (Kv : VW) (ρ : Rho) (vs : List Value) (w : World) : Prop :=
  match ρ, vs with
  | N0 :: _, [.slice f_1p f_1l f_1c, .pointer (some p_3), .pointer (some d_5), .int .i64 i_7, .bool fine_8] => z13_k2 ⟨f_1p, f_1l, f_1c⟩ p_3 d_5 i_7 fine_8 (fun f_1' p_3' d_5' i_7' w' => N0 [(Value.slice f_1'.p f_1'.l f_1'.c), (Value.pointer (some p_3')), (Value.pointer (some d_5')), (Value.int .i64 i_7')] w') (Pw.kB Kv) w
  | _, _ => False
noncomputable def z13_S : Pw.Spec := fun vs w Kv =>
  match vs with
  | [.agg ⟨[.slice p_0_0p p_0_0l p_0_0c, .slice p_0_1p p_0_1l p_0_1c, .slice p_0_2p p_0_2l p_0_2c, .int .i64 p_0_3, .int .i64 p_0_4]⟩, .slice f_1p f_1l f_1c, .agg ⟨[.int .i64 d_2_0, .slice d_2_1p d_2_1l d_2_1c, .int .i64 d_2_2]⟩] => z13_sh ⟨p_0_0p, p_0_0l, p_0_0c⟩ ⟨p_0_1p, p_0_1l, p_0_1c⟩ ⟨p_0_2p, p_0_2l, p_0_2c⟩ p_0_3 p_0_4 ⟨f_1p, f_1l, f_1c⟩ d_2_0 ⟨d_2_1p, d_2_1l, d_2_1c⟩ d_2_2 (Pw.kB Kv) w
  | _ => False
noncomputable def z13_E : Pw.Env := [(87, z12_S)]
noncomputable def z13_C : Code := (Tryz.f89.body).getD .skip
noncomputable def z13_A (Kv : VW) : Pw.A :=
  (A.seq (A.reg (Pw.rn 3 RA.done))
   (A.seq (A.seq (A.reg (RA.run RA.done))
   (A.blk (A.loop [1, 3, 5, 7] (z13_P0 Kv) (A.seq (A.seq (A.reg (Pw.rn 5 RA.done))
   (A.cond A.leaf
   A.leaf))
   (A.seq (A.blk (A.seq (A.seq (A.drw (DA.pur 0 (DA.pur 1 (DA.pur 2 (DA.pur 3 (DA.pur 4 (DA.pur 5 (DA.pur 6 (DA.eff 7 (DA.pur 8 DA.done))))))))))
   (A.cond A.leaf
   A.leaf))
   (A.seq (A.reg (RA.run RA.done))
   (A.seq (A.seq (A.reg (Pw.rn 4 RA.done))
   (A.cond (A.drp (DA.pur 0 (DA.pur 1 (DA.pur 2 (DA.pur 3 (DA.pur 4 (DA.pur 5 (DA.spl 35 (DA.pur 6 (DA.pur 7 (DA.pur 8 (DA.pur 9 (DA.pur 10 (DA.pur 11 (DA.pur 12 (DA.pur 13 (DA.pur 14 (DA.pur 15 (DA.pur 16 (DA.pur 17 (DA.pur 18 (DA.pur 19 DA.done)))))))))))))) (DA.skp 6 (DA.skp 7 (DA.skp 8 (DA.skp 9 (DA.skp 10 (DA.skp 11 (DA.skp 12 (DA.skp 13 (DA.skp 14 (DA.skp 15 (DA.skp 16 (DA.skp 17 (DA.pur 18 (DA.pur 19 DA.done))))))))))))))))))))))
   (A.seq (A.reg (RA.run RA.done))
   (A.blk (A.loop [1, 3, 5, 7, 8, 9] (z13_P1 Kv) (A.seq (A.seq (A.reg (Pw.rn 5 RA.done))
   (A.cond A.leaf
   A.leaf))
   (A.seq (A.blk (A.drp (DA.pur 0 (DA.pur 1 (DA.spl 57 (DA.skp 2 (DA.skp 3 (DA.skp 4 (DA.skp 5 (DA.skp 6 (DA.skp 7 (DA.skp 8 (DA.skp 9 (DA.skp 10 (DA.skp 11 (DA.skp 12 (DA.skp 13 (DA.skp 14 (DA.skp 15 (DA.skp 16 (DA.skp 17 (DA.skp 18 (DA.skp 19 (DA.skp 20 (DA.skp 21 (DA.skp 22 (DA.skp 23 (DA.skp 24 (DA.pur 25 (DA.pur 26 DA.done))))))))))))))))))))))))) (DA.pur 2 (DA.pur 3 (DA.pur 4 (DA.pur 5 (DA.pur 6 (DA.pur 7 (DA.pur 8 (DA.pur 9 (DA.pur 10 (DA.pur 11 (DA.pur 12 (DA.pur 13 (DA.pur 14 (DA.spl 70 (DA.pur 15 (DA.pur 16 (DA.pur 17 (DA.pur 18 (DA.pur 19 (DA.pur 20 (DA.pur 21 (DA.pur 22 (DA.pur 23 (DA.pur 24 (DA.pur 25 (DA.pur 26 DA.done)))))))))))) (DA.skp 15 (DA.skp 16 (DA.skp 17 (DA.skp 18 (DA.skp 19 (DA.skp 20 (DA.skp 21 (DA.skp 22 (DA.skp 23 (DA.pur 24 (DA.pur 25 (DA.pur 26 DA.done)))))))))))))))))))))))))))))))
   (A.reg (Pw.rn 3 RA.done)))))))))
   (A.cut [1, 3, 5, 7, 8] (z13_P2 Kv) (A.seq (A.reg (Pw.rn 2 RA.done))
   (A.cond (A.seq (A.reg (RA.run RA.done))
   A.leaf)
   A.leaf)))))))
   (A.reg (Pw.rn 3 RA.done)))))))
   (A.seq (A.reg (RA.run RA.done))
   A.leaf)))
noncomputable def z13_O (Kv : VW) : List Ob := (obs Tryz.prog z13_E 84 (z13_A Kv) z13_C (fun _ => retQ Tryz.prog Tryz.f89.results Kv))
theorem z13_e (Kv : VW) (p_0_0p : Option Addr) (p_0_0l p_0_0c : Nat) (p_0_1p : Option Addr) (p_0_1l p_0_1c : Nat) (p_0_2p : Option Addr) (p_0_2l p_0_2c : Nat) (p_0_3 p_0_4 : Int) (f_1p : Option Addr) (f_1l f_1c : Nat) (d_2_0 : Int) (d_2_1p : Option Addr) (d_2_1l d_2_1c : Nat) (d_2_2 : Int) (w : World) : z13_sd ⟨p_0_0p, p_0_0l, p_0_0c⟩ ⟨p_0_1p, p_0_1l, p_0_1c⟩ ⟨p_0_2p, p_0_2l, p_0_2c⟩ p_0_3 p_0_4 ⟨f_1p, f_1l, f_1c⟩ d_2_0 ⟨d_2_1p, d_2_1l, d_2_1c⟩ d_2_2 (Pw.kB Kv) w = W Tryz.prog z13_E 84 (z13_A Kv) z13_C [] (retQ Tryz.prog Tryz.f89.results Kv) [] (startS [(Value.agg #[(Value.slice p_0_0p p_0_0l p_0_0c), (Value.slice p_0_1p p_0_1l p_0_1c), (Value.slice p_0_2p p_0_2l p_0_2c), (Value.int .i64 p_0_3), (Value.int .i64 p_0_4)]), (Value.slice f_1p f_1l f_1c), (Value.agg #[(Value.int .i64 d_2_0), (Value.slice d_2_1p d_2_1l d_2_1c), (Value.int .i64 d_2_2)])]) w := by kernel_rfl
theorem z13_e0 (Kv : VW) (N0 : List Value -> World -> Prop) (ρ : Rho) (f_1p : Option Addr) (f_1l f_1c : Nat) (p_3 d_5 : Addr) (i_7 : Int) (w : World) : z13_b0 ⟨f_1p, f_1l, f_1c⟩ p_3 d_5 i_7 (fun f_1' p_3' d_5' i_7' w' => N0 [(Value.slice f_1'.p f_1'.l f_1'.c), (Value.pointer (some p_3')), (Value.pointer (some d_5')), (Value.int .i64 i_7')] w') (Pw.kB Kv) w = goalAt Tryz.prog z13_E 84 (z13_O Kv) 0 (N0 :: ρ) [(Value.slice f_1p f_1l f_1c), (Value.pointer (some p_3)), (Value.pointer (some d_5)), (Value.int .i64 i_7)] w := by kernel_rfl
theorem z13_q0 (Kv : VW) (ρ : Rho) (vs : List Value) (w : World) : labAt (z13_O Kv) 0 ρ vs w = z13_P0 Kv ρ vs w := by kernel_rfl
def z13_I0 (f_10 : Sl) (p_30 d_50 : Addr) (I : Int -> World -> Prop) (vs : List Value) (w : World) : Prop :=
  match vs with
  | [.slice f_1p f_1l f_1c, .pointer (some p_3), .pointer (some d_5), .int .i64 i_7] => (⟨f_1p, f_1l, f_1c⟩ = f_10 /\ p_3 = p_30 /\ d_5 = d_50 /\ True) /\ I i_7 w
  | _ => False
def z13_M0 (μ : Int -> World -> Nat) (vs : List Value) (w : World) : Nat :=
  match vs with
  | [.slice _f_1p _f_1l _f_1c, .pointer (some _p_3), .pointer (some _d_5), .int .i64 i_7] => μ i_7 w
  | _ => 0
theorem z13_h0 (Kv : VW) : holdsAt Tryz.prog z13_E 84 (z13_O Kv) 0 := holdsAt_loop (by kernel_rfl) (fun ρ vs w h => by
  rw [z13_q0] at h
  unfold z13_P0 at h
  split at h
  . rename_i ρt f_1p f_1l f_1c p_3 d_5 i_7
    obtain ⟨I, μ, h0, hr⟩ := h.out
    refine ⟨z13_I0 ⟨f_1p, f_1l, f_1c⟩ p_3 d_5 I, z13_M0 μ, ⟨⟨rfl, rfl, rfl, trivial⟩, h0⟩, fun vs w hI => ?_⟩
    unfold z13_I0 at hI
    split at hI
    . obtain ⟨⟨h0, h1, h2, _⟩, hI⟩ := hI
      cases h0; cases h1; cases h2
      rw [← z13_e0]
      exact hr _ _ hI
    . exact hI.elim
  . exact h.elim)
theorem z13_e1 (Kv : VW) (N1 N0 : List Value -> World -> Prop) (ρ : Rho) (f_1p : Option Addr) (f_1l f_1c : Nat) (p_3 d_5 : Addr) (i_7 : Int) (fine_8 : Bool) (k_9 : Int) (w : World) : z13_b1 ⟨f_1p, f_1l, f_1c⟩ p_3 d_5 i_7 fine_8 k_9 (fun f_1' p_3' d_5' i_7' fine_8' k_9' w' => N1 [(Value.slice f_1'.p f_1'.l f_1'.c), (Value.pointer (some p_3')), (Value.pointer (some d_5')), (Value.int .i64 i_7'), (Value.bool fine_8'), (Value.int .i64 k_9')] w') (fun f_1' p_3' d_5' i_7' w' => N0 [(Value.slice f_1'.p f_1'.l f_1'.c), (Value.pointer (some p_3')), (Value.pointer (some d_5')), (Value.int .i64 i_7')] w') (Pw.kB Kv) w = goalAt Tryz.prog z13_E 84 (z13_O Kv) 1 (N1 :: N0 :: ρ) [(Value.slice f_1p f_1l f_1c), (Value.pointer (some p_3)), (Value.pointer (some d_5)), (Value.int .i64 i_7), (Value.bool fine_8), (Value.int .i64 k_9)] w := by kernel_rfl
theorem z13_q1 (Kv : VW) (ρ : Rho) (vs : List Value) (w : World) : labAt (z13_O Kv) 1 ρ vs w = z13_P1 Kv ρ vs w := by kernel_rfl
def z13_I1 (f_10 : Sl) (p_30 d_50 : Addr) (i_70 : Int) (I : Bool -> Int -> World -> Prop) (vs : List Value) (w : World) : Prop :=
  match vs with
  | [.slice f_1p f_1l f_1c, .pointer (some p_3), .pointer (some d_5), .int .i64 i_7, .bool fine_8, .int .i64 k_9] => (⟨f_1p, f_1l, f_1c⟩ = f_10 /\ p_3 = p_30 /\ d_5 = d_50 /\ i_7 = i_70 /\ True) /\ I fine_8 k_9 w
  | _ => False
def z13_M1 (μ : Bool -> Int -> World -> Nat) (vs : List Value) (w : World) : Nat :=
  match vs with
  | [.slice _f_1p _f_1l _f_1c, .pointer (some _p_3), .pointer (some _d_5), .int .i64 _i_7, .bool fine_8, .int .i64 k_9] => μ fine_8 k_9 w
  | _ => 0
theorem z13_h1 (Kv : VW) : holdsAt Tryz.prog z13_E 84 (z13_O Kv) 1 := holdsAt_loop (by kernel_rfl) (fun ρ vs w h => by
  rw [z13_q1] at h
  unfold z13_P1 at h
  split at h
  . rename_i N0 ρt f_1p f_1l f_1c p_3 d_5 i_7 fine_8 k_9
    obtain ⟨I, μ, h0, hr⟩ := h.out
    refine ⟨z13_I1 ⟨f_1p, f_1l, f_1c⟩ p_3 d_5 i_7 I, z13_M1 μ, ⟨⟨rfl, rfl, rfl, rfl, trivial⟩, h0⟩, fun vs w hI => ?_⟩
    unfold z13_I1 at hI
    split at hI
    . obtain ⟨⟨h0, h1, h2, h3, _⟩, hI⟩ := hI
      cases h0; cases h1; cases h2; cases h3
      rw [← z13_e1]
      exact hr _ _ _ hI
    . exact hI.elim
  . exact h.elim)
theorem z13_e2 (Kv : VW) (N0 : List Value -> World -> Prop) (ρ : Rho) (f_1p : Option Addr) (f_1l f_1c : Nat) (p_3 d_5 : Addr) (i_7 : Int) (fine_8 : Bool) (w : World) : z13_k2d ⟨f_1p, f_1l, f_1c⟩ p_3 d_5 i_7 fine_8 (fun f_1' p_3' d_5' i_7' w' => N0 [(Value.slice f_1'.p f_1'.l f_1'.c), (Value.pointer (some p_3')), (Value.pointer (some d_5')), (Value.int .i64 i_7')] w') (Pw.kB Kv) w = goalAt Tryz.prog z13_E 84 (z13_O Kv) 2 (N0 :: ρ) [(Value.slice f_1p f_1l f_1c), (Value.pointer (some p_3)), (Value.pointer (some d_5)), (Value.int .i64 i_7), (Value.bool fine_8)] w := by kernel_rfl
theorem z13_q2 (Kv : VW) (ρ : Rho) (vs : List Value) (w : World) : labAt (z13_O Kv) 2 ρ vs w = z13_P2 Kv ρ vs w := by kernel_rfl
theorem z13_h2 (Kv : VW) : holdsAt Tryz.prog z13_E 84 (z13_O Kv) 2 := holdsAt_cut (.inl (by kernel_rfl)) (fun ρ vs w h => by
  rw [z13_q2] at h
  unfold z13_P2 at h
  split at h
  . rw [← z13_e2]; exact h.out
  . exact h.elim)
theorem z13_n (Kv : VW) : obAt (z13_O Kv) 3 = none := by kernel_rfl
theorem z13_h (Kv : VW) : ∀ k, holdsAt Tryz.prog z13_E 84 (z13_O Kv) k := fun k => match k with
  | 0 => z13_h0 Kv
  | 1 => z13_h1 Kv
  | 2 => z13_h2 Kv
  | _k + 3 => holdsAt_ge (z13_n Kv) (Nat.le_add_left _ _)
theorem z13_ok : Sound Tryz.prog 89 z13_S := ⟨Tryz.call89, fun vs w Kv h => by
  unfold z13_S at h
  split at h
  . have h := h.out
    rw [z13_e] at h
    exact calls_sound (Γ := z13_E) progMixed ⟨.inl z12_ok, trivial⟩ Tryz.func89 (code := z13_C) (by kernel_rfl) (z13_A Kv) Kv (holds_all (z13_h Kv)) (Nat.le_of_ble_eq_true (by kernel_rfl)) h
  . exact h.elim⟩
/-! Rf_offs -/
def z39_b0 (f_1 : Sl) (p_2 : Addr) (out_5 i_6 : Int) (N0 : Sl -> Addr -> Int -> Int -> World -> Prop) (K : Pw.T1) (w : World) : Prop :=
  ∃ x2 : Sl, w.cell? (p_2.add 2) = some (Value.slice x2.p x2.l x2.c) /\ cnd (decide (i_6 < (x2.l : Int)))
    (let w3 := w.drew
  ∃ S4 : World -> Prop, S4 w3 /\ ∃ x5 : Sl, (∀ w' : World, S4 w' -> w'.cell? p_2 = some (Value.slice x5.p x5.l x5.c)) /\ ∃ x6 : Sl, (∀ w' : World, S4 w' -> w'.cell? (p_2.add 1) = some (Value.slice x6.p x6.l x6.c)) /\ ∃ x7 : Sl, (∀ w' : World, S4 w' -> w'.cell? (p_2.add 2) = some (Value.slice x7.p x7.l x7.c)) /\ ∃ x8 : Int, (∀ w' : World, S4 w' -> w'.cell? (p_2.add 3) = some (Value.int .i64 x8)) /\ ∃ x9 : Int, (∀ w' : World, S4 w' -> w'.cell? (p_2.add 4) = some (Value.int .i64 x9)) /\ ∃ x10 : Sl, (∀ w' : World, S4 w' -> w'.cell? (p_2.add 2) = some (Value.slice x10.p x10.l x10.c)) /\ nz x10.p fun a11 => (0 <= i_6 /\ i_6 < (x10.l : Nat)) /\ ∃ x12 : Int, (∀ w' : World, S4 w' -> w'.cell? (a11.add (i_6.toNat * 3)) = some (Value.int .i64 x12)) /\ ∃ x13 : Sl, (∀ w' : World, S4 w' -> w'.cell? ((a11.add (i_6.toNat * 3)).add 1) = some (Value.slice x13.p x13.l x13.c)) /\ ∃ x14 : Int, (∀ w' : World, S4 w' -> w'.cell? ((a11.add (i_6.toNat * 3)).add 2) = some (Value.int .i64 x14)) /\ z13_sh x5 x6 x7 x8 x9 f_1 x12 x13 x14 (fun r16 w15 => S4 w15 /\ cnd r16
    (∃ x17 : Sl, w15.cell? (p_2.add 2) = some (Value.slice x17.p x17.l x17.c) /\ nz x17.p fun a18 => (0 <= i_6 /\ i_6 < (x17.l : Nat)) /\ ∃ x19 : Int, w15.cell? ((a18.add (i_6.toNat * 3)).add 2) = some (Value.int .i64 x19) /\ inR .i64 (out_5 + x19) /\ inR .i64 (i_6 + (1 : Int)) /\ N0 f_1 p_2 (out_5 + x19) (i_6 + (1 : Int)) w15)
    (inR .i64 (i_6 + (1 : Int)) /\ N0 f_1 p_2 out_5 (i_6 + (1 : Int)) w15)) w3)
    (K out_5 w)
def z39_l0d (f_1 : Sl) (p_2 : Addr) (out_5 i_6 : Int) (K : Pw.T1) (w : World) : Prop :=
  ∃ (I : Int -> Int -> World -> Prop) (μ : Int -> Int -> World -> Nat), I out_5 i_6 w /\ ∀ (out_51 i_61 : Int) (w1 : World), I out_51 i_61 w1 ->
    z39_b0 f_1 p_2 out_51 i_61 (fun f_1' p_2' out_5' i_6' w' => ((f_1' = f_1 /\ p_2' = p_2 /\ True) /\ I out_5' i_6' w') /\ μ out_5' i_6' w' < μ out_51 i_61 w1) K w1
structure z39_l0 (f_1 : Sl) (p_2 : Addr) (out_5 i_6 : Int) (K : Pw.T1) (w : World) : Prop where
  out : z39_l0d f_1 p_2 out_5 i_6 K w
def z39_sd (p_0_0 p_0_1 p_0_2 : Sl) (p_0_3 p_0_4 : Int) (f_1 : Sl) (K : Pw.T1) (w : World) : Prop :=
  let w1 := w.alloc (Obj.cells #[(Value.slice p_0_0.p p_0_0.l p_0_0.c), (Value.slice p_0_1.p p_0_1.l p_0_1.c), (Value.slice p_0_2.p p_0_2.l p_0_2.c), (Value.int .i64 p_0_3), (Value.int .i64 p_0_4)] 27)
  z39_l0 f_1 (Addr.mk w.heap.size 0 none) (0 : Int) (0 : Int) K w1
structure z39_sh (p_0_0 p_0_1 p_0_2 : Sl) (p_0_3 p_0_4 : Int) (f_1 : Sl) (K : Pw.T1) (w : World) : Prop where
  out : z39_sd p_0_0 p_0_1 p_0_2 p_0_3 p_0_4 f_1 K w
def z39_P0 (Kv : VW) (ρ : Rho) (vs : List Value) (w : World) : Prop :=
  match ρ, vs with
  | _, [.slice f_1p f_1l f_1c, .pointer (some p_2), .int .i64 out_5, .int .i64 i_6] => z39_l0 ⟨f_1p, f_1l, f_1c⟩ p_2 out_5 i_6 (Pw.kI Kv) w
  | _, _ => False
noncomputable def z39_S : Pw.Spec := fun vs w Kv =>
  match vs with
  | [.agg ⟨[.slice p_0_0p p_0_0l p_0_0c, .slice p_0_1p p_0_1l p_0_1c, .slice p_0_2p p_0_2l p_0_2c, .int .i64 p_0_3, .int .i64 p_0_4]⟩, .slice f_1p f_1l f_1c] => z39_sh ⟨p_0_0p, p_0_0l, p_0_0c⟩ ⟨p_0_1p, p_0_1l, p_0_1c⟩ ⟨p_0_2p, p_0_2l, p_0_2c⟩ p_0_3 p_0_4 ⟨f_1p, f_1l, f_1c⟩ (Pw.kI Kv) w
  | _ => False
noncomputable def z39_E : Pw.Env := [(89, z13_S)]
noncomputable def z39_C : Code := (Tryz.f65.body).getD .skip
noncomputable def z39_A (Kv : VW) : Pw.A :=
  (A.seq (A.reg (Pw.rn 2 RA.done))
   (A.seq (A.reg (RA.run RA.done))
   (A.seq (A.seq (A.reg (RA.run RA.done))
   (A.blk (A.loop [1, 2, 5, 6] (z39_P0 Kv) (A.seq (A.seq (A.reg (Pw.rn 5 RA.done))
   (A.cond A.leaf
   A.leaf))
   (A.seq (A.blk (A.seq (A.drw (DA.pur 0 (DA.pur 1 (DA.pur 2 (DA.pur 3 (DA.pur 4 (DA.pur 5 (DA.pur 6 (DA.eff 7 (DA.pur 8 DA.done))))))))))
   (A.seq (A.reg (RA.run RA.done))
   (A.cond (A.reg (Pw.rn 9 RA.done))
   A.leaf))))
   (A.reg (Pw.rn 3 RA.done)))))))
   (A.seq (A.reg (Pw.rn 2 RA.done))
   A.leaf))))
noncomputable def z39_O (Kv : VW) : List Ob := (obs Tryz.prog z39_E 33 (z39_A Kv) z39_C (fun _ => retQ Tryz.prog Tryz.f65.results Kv))
theorem z39_e (Kv : VW) (p_0_0p : Option Addr) (p_0_0l p_0_0c : Nat) (p_0_1p : Option Addr) (p_0_1l p_0_1c : Nat) (p_0_2p : Option Addr) (p_0_2l p_0_2c : Nat) (p_0_3 p_0_4 : Int) (f_1p : Option Addr) (f_1l f_1c : Nat) (w : World) : z39_sd ⟨p_0_0p, p_0_0l, p_0_0c⟩ ⟨p_0_1p, p_0_1l, p_0_1c⟩ ⟨p_0_2p, p_0_2l, p_0_2c⟩ p_0_3 p_0_4 ⟨f_1p, f_1l, f_1c⟩ (Pw.kI Kv) w = W Tryz.prog z39_E 33 (z39_A Kv) z39_C [] (retQ Tryz.prog Tryz.f65.results Kv) [] (startS [(Value.agg #[(Value.slice p_0_0p p_0_0l p_0_0c), (Value.slice p_0_1p p_0_1l p_0_1c), (Value.slice p_0_2p p_0_2l p_0_2c), (Value.int .i64 p_0_3), (Value.int .i64 p_0_4)]), (Value.slice f_1p f_1l f_1c)]) w := by kernel_rfl
theorem z39_e0 (Kv : VW) (N0 : List Value -> World -> Prop) (ρ : Rho) (f_1p : Option Addr) (f_1l f_1c : Nat) (p_2 : Addr) (out_5 i_6 : Int) (w : World) : z39_b0 ⟨f_1p, f_1l, f_1c⟩ p_2 out_5 i_6 (fun f_1' p_2' out_5' i_6' w' => N0 [(Value.slice f_1'.p f_1'.l f_1'.c), (Value.pointer (some p_2')), (Value.int .i64 out_5'), (Value.int .i64 i_6')] w') (Pw.kI Kv) w = goalAt Tryz.prog z39_E 33 (z39_O Kv) 0 (N0 :: ρ) [(Value.slice f_1p f_1l f_1c), (Value.pointer (some p_2)), (Value.int .i64 out_5), (Value.int .i64 i_6)] w := by kernel_rfl
theorem z39_q0 (Kv : VW) (ρ : Rho) (vs : List Value) (w : World) : labAt (z39_O Kv) 0 ρ vs w = z39_P0 Kv ρ vs w := by kernel_rfl
def z39_I0 (f_10 : Sl) (p_20 : Addr) (I : Int -> Int -> World -> Prop) (vs : List Value) (w : World) : Prop :=
  match vs with
  | [.slice f_1p f_1l f_1c, .pointer (some p_2), .int .i64 out_5, .int .i64 i_6] => (⟨f_1p, f_1l, f_1c⟩ = f_10 /\ p_2 = p_20 /\ True) /\ I out_5 i_6 w
  | _ => False
def z39_M0 (μ : Int -> Int -> World -> Nat) (vs : List Value) (w : World) : Nat :=
  match vs with
  | [.slice _f_1p _f_1l _f_1c, .pointer (some _p_2), .int .i64 out_5, .int .i64 i_6] => μ out_5 i_6 w
  | _ => 0
theorem z39_h0 (Kv : VW) : holdsAt Tryz.prog z39_E 33 (z39_O Kv) 0 := holdsAt_loop (by kernel_rfl) (fun ρ vs w h => by
  rw [z39_q0] at h
  unfold z39_P0 at h
  split at h
  . rename_i ρt f_1p f_1l f_1c p_2 out_5 i_6
    obtain ⟨I, μ, h0, hr⟩ := h.out
    refine ⟨z39_I0 ⟨f_1p, f_1l, f_1c⟩ p_2 I, z39_M0 μ, ⟨⟨rfl, rfl, trivial⟩, h0⟩, fun vs w hI => ?_⟩
    unfold z39_I0 at hI
    split at hI
    . obtain ⟨⟨h0, h1, _⟩, hI⟩ := hI
      cases h0; cases h1
      rw [← z39_e0]
      exact hr _ _ _ hI
    . exact hI.elim
  . exact h.elim)
theorem z39_n (Kv : VW) : obAt (z39_O Kv) 1 = none := by kernel_rfl
theorem z39_h (Kv : VW) : ∀ k, holdsAt Tryz.prog z39_E 33 (z39_O Kv) k := fun k => match k with
  | 0 => z39_h0 Kv
  | _k + 1 => holdsAt_ge (z39_n Kv) (Nat.le_add_left _ _)
theorem z39_ok : Sound Tryz.prog 65 z39_S := ⟨Tryz.call65, fun vs w Kv h => by
  unfold z39_S at h
  split at h
  . have h := h.out
    rw [z39_e] at h
    exact calls_sound (Γ := z39_E) progMixed ⟨.inl z13_ok, trivial⟩ Tryz.func65 (code := z39_C) (by kernel_rfl) (z39_A Kv) Kv (holds_all (z39_h Kv)) (Nat.le_of_ble_eq_true (by kernel_rfl)) h
  . exact h.elim⟩
/-! Rf_Least -/
def z2c_b0 (f_1 : Sl) (p_2 : Addr) (out_5 i_6 : Int) (N0 : Sl -> Addr -> Int -> Int -> World -> Prop) (K : Pw.T1) (w : World) : Prop :=
  cnd (decide (i_6 < (f_1.l : Int)))
    (nz f_1.p fun a2 => (0 <= i_6 /\ i_6 < (f_1.l : Nat)) /\ ∃ x3 : Int, w.cell? (a2.add (i_6.toNat * 1)) = some (Value.int .i64 x3) /\ cnd (decide (x3 >= (0 : Int)))
    (let w4 := w.drew
  ∃ x5 : Sl, w4.cell? (p_2.add 1) = some (Value.slice x5.p x5.l x5.c) /\ nz f_1.p fun a6 => (0 <= i_6 /\ i_6 < (f_1.l : Nat)) /\ ∃ x7 : Int, w4.cell? (a6.add (i_6.toNat * 1)) = some (Value.int .i64 x7) /\ nz x5.p fun a8 => (0 <= x7 /\ x7 < (x5.l : Nat)) /\ ∃ x9 : Int, w4.cell? ((a8.add (x7.toNat * 4)).add 2) = some (Value.int .i64 x9) /\ inR .i64 (out_5 + x9) /\ inR .i64 (i_6 + (1 : Int)) /\ N0 f_1 p_2 (out_5 + x9) (i_6 + (1 : Int)) w4)
    (inR .i64 (i_6 + (1 : Int)) /\ N0 f_1 p_2 out_5 (i_6 + (1 : Int)) w))
    (∃ x10 : Sl, w.cell? p_2 = some (Value.slice x10.p x10.l x10.c) /\ ∃ x11 : Sl, w.cell? (p_2.add 1) = some (Value.slice x11.p x11.l x11.c) /\ ∃ x12 : Sl, w.cell? (p_2.add 2) = some (Value.slice x12.p x12.l x12.c) /\ ∃ x13 : Int, w.cell? (p_2.add 3) = some (Value.int .i64 x13) /\ ∃ x14 : Int, w.cell? (p_2.add 4) = some (Value.int .i64 x14) /\ z39_sh x10 x11 x12 x13 x14 f_1 (fun r16 w15 => inR .i64 (out_5 - r16) /\ K (max (0 : Int) (out_5 - r16)) w15) w)
def z2c_l0d (f_1 : Sl) (p_2 : Addr) (out_5 i_6 : Int) (K : Pw.T1) (w : World) : Prop :=
  ∃ (I : Int -> Int -> World -> Prop) (μ : Int -> Int -> World -> Nat), I out_5 i_6 w /\ ∀ (out_51 i_61 : Int) (w1 : World), I out_51 i_61 w1 ->
    z2c_b0 f_1 p_2 out_51 i_61 (fun f_1' p_2' out_5' i_6' w' => ((f_1' = f_1 /\ p_2' = p_2 /\ True) /\ I out_5' i_6' w') /\ μ out_5' i_6' w' < μ out_51 i_61 w1) K w1
structure z2c_l0 (f_1 : Sl) (p_2 : Addr) (out_5 i_6 : Int) (K : Pw.T1) (w : World) : Prop where
  out : z2c_l0d f_1 p_2 out_5 i_6 K w
def z2c_sd (p_0_0 p_0_1 p_0_2 : Sl) (p_0_3 p_0_4 : Int) (f_1 : Sl) (K : Pw.T1) (w : World) : Prop :=
  let w1 := w.alloc (Obj.cells #[(Value.slice p_0_0.p p_0_0.l p_0_0.c), (Value.slice p_0_1.p p_0_1.l p_0_1.c), (Value.slice p_0_2.p p_0_2.l p_0_2.c), (Value.int .i64 p_0_3), (Value.int .i64 p_0_4)] 27)
  z2c_l0 f_1 (Addr.mk w.heap.size 0 none) (0 : Int) (0 : Int) K w1
structure z2c_sh (p_0_0 p_0_1 p_0_2 : Sl) (p_0_3 p_0_4 : Int) (f_1 : Sl) (K : Pw.T1) (w : World) : Prop where
  out : z2c_sd p_0_0 p_0_1 p_0_2 p_0_3 p_0_4 f_1 K w
def z2c_P0 (Kv : VW) (ρ : Rho) (vs : List Value) (w : World) : Prop :=
  match ρ, vs with
  | _, [.slice f_1p f_1l f_1c, .pointer (some p_2), .int .i64 out_5, .int .i64 i_6] => z2c_l0 ⟨f_1p, f_1l, f_1c⟩ p_2 out_5 i_6 (Pw.kI Kv) w
  | _, _ => False
noncomputable def z2c_S : Pw.Spec := fun vs w Kv =>
  match vs with
  | [.agg ⟨[.slice p_0_0p p_0_0l p_0_0c, .slice p_0_1p p_0_1l p_0_1c, .slice p_0_2p p_0_2l p_0_2c, .int .i64 p_0_3, .int .i64 p_0_4]⟩, .slice f_1p f_1l f_1c] => z2c_sh ⟨p_0_0p, p_0_0l, p_0_0c⟩ ⟨p_0_1p, p_0_1l, p_0_1c⟩ ⟨p_0_2p, p_0_2l, p_0_2c⟩ p_0_3 p_0_4 ⟨f_1p, f_1l, f_1c⟩ (Pw.kI Kv) w
  | _ => False
noncomputable def z2c_E : Pw.Env := [(65, z39_S)]
noncomputable def z2c_C : Code := (Tryz.f37.body).getD .skip
noncomputable def z2c_A (Kv : VW) : Pw.A :=
  (A.seq (A.reg (Pw.rn 2 RA.done))
   (A.seq (A.reg (RA.run RA.done))
   (A.seq (A.seq (A.reg (RA.run RA.done))
   (A.blk (A.loop [1, 2, 5, 6] (z2c_P0 Kv) (A.seq (A.seq (A.reg (Pw.rn 4 RA.done))
   (A.cond A.leaf
   A.leaf))
   (A.seq (A.blk (A.seq (A.reg (Pw.rn 5 RA.done))
   (A.cond (A.drp (DA.pur 0 (DA.pur 1 (DA.pur 2 (DA.pur 3 (DA.pur 4 (DA.pur 5 (DA.pur 6 (DA.pur 7 (DA.pur 8 (DA.pur 9 (DA.pur 10 (DA.pur 11 DA.done)))))))))))))
   A.leaf)))
   (A.reg (Pw.rn 3 RA.done)))))))
   (A.seq (A.reg (Pw.rn 7 RA.done))
   A.leaf))))
noncomputable def z2c_O (Kv : VW) : List Ob := (obs Tryz.prog z2c_E 35 (z2c_A Kv) z2c_C (fun _ => retQ Tryz.prog Tryz.f37.results Kv))
theorem z2c_e (Kv : VW) (p_0_0p : Option Addr) (p_0_0l p_0_0c : Nat) (p_0_1p : Option Addr) (p_0_1l p_0_1c : Nat) (p_0_2p : Option Addr) (p_0_2l p_0_2c : Nat) (p_0_3 p_0_4 : Int) (f_1p : Option Addr) (f_1l f_1c : Nat) (w : World) : z2c_sd ⟨p_0_0p, p_0_0l, p_0_0c⟩ ⟨p_0_1p, p_0_1l, p_0_1c⟩ ⟨p_0_2p, p_0_2l, p_0_2c⟩ p_0_3 p_0_4 ⟨f_1p, f_1l, f_1c⟩ (Pw.kI Kv) w = W Tryz.prog z2c_E 35 (z2c_A Kv) z2c_C [] (retQ Tryz.prog Tryz.f37.results Kv) [] (startS [(Value.agg #[(Value.slice p_0_0p p_0_0l p_0_0c), (Value.slice p_0_1p p_0_1l p_0_1c), (Value.slice p_0_2p p_0_2l p_0_2c), (Value.int .i64 p_0_3), (Value.int .i64 p_0_4)]), (Value.slice f_1p f_1l f_1c)]) w := by kernel_rfl
theorem z2c_e0 (Kv : VW) (N0 : List Value -> World -> Prop) (ρ : Rho) (f_1p : Option Addr) (f_1l f_1c : Nat) (p_2 : Addr) (out_5 i_6 : Int) (w : World) : z2c_b0 ⟨f_1p, f_1l, f_1c⟩ p_2 out_5 i_6 (fun f_1' p_2' out_5' i_6' w' => N0 [(Value.slice f_1'.p f_1'.l f_1'.c), (Value.pointer (some p_2')), (Value.int .i64 out_5'), (Value.int .i64 i_6')] w') (Pw.kI Kv) w = goalAt Tryz.prog z2c_E 35 (z2c_O Kv) 0 (N0 :: ρ) [(Value.slice f_1p f_1l f_1c), (Value.pointer (some p_2)), (Value.int .i64 out_5), (Value.int .i64 i_6)] w := by kernel_rfl
theorem z2c_q0 (Kv : VW) (ρ : Rho) (vs : List Value) (w : World) : labAt (z2c_O Kv) 0 ρ vs w = z2c_P0 Kv ρ vs w := by kernel_rfl
def z2c_I0 (f_10 : Sl) (p_20 : Addr) (I : Int -> Int -> World -> Prop) (vs : List Value) (w : World) : Prop :=
  match vs with
  | [.slice f_1p f_1l f_1c, .pointer (some p_2), .int .i64 out_5, .int .i64 i_6] => (⟨f_1p, f_1l, f_1c⟩ = f_10 /\ p_2 = p_20 /\ True) /\ I out_5 i_6 w
  | _ => False
def z2c_M0 (μ : Int -> Int -> World -> Nat) (vs : List Value) (w : World) : Nat :=
  match vs with
  | [.slice _f_1p _f_1l _f_1c, .pointer (some _p_2), .int .i64 out_5, .int .i64 i_6] => μ out_5 i_6 w
  | _ => 0
theorem z2c_h0 (Kv : VW) : holdsAt Tryz.prog z2c_E 35 (z2c_O Kv) 0 := holdsAt_loop (by kernel_rfl) (fun ρ vs w h => by
  rw [z2c_q0] at h
  unfold z2c_P0 at h
  split at h
  . rename_i ρt f_1p f_1l f_1c p_2 out_5 i_6
    obtain ⟨I, μ, h0, hr⟩ := h.out
    refine ⟨z2c_I0 ⟨f_1p, f_1l, f_1c⟩ p_2 I, z2c_M0 μ, ⟨⟨rfl, rfl, trivial⟩, h0⟩, fun vs w hI => ?_⟩
    unfold z2c_I0 at hI
    split at hI
    . obtain ⟨⟨h0, h1, _⟩, hI⟩ := hI
      cases h0; cases h1
      rw [← z2c_e0]
      exact hr _ _ _ hI
    . exact hI.elim
  . exact h.elim)
theorem z2c_n (Kv : VW) : obAt (z2c_O Kv) 1 = none := by kernel_rfl
theorem z2c_h (Kv : VW) : ∀ k, holdsAt Tryz.prog z2c_E 35 (z2c_O Kv) k := fun k => match k with
  | 0 => z2c_h0 Kv
  | _k + 1 => holdsAt_ge (z2c_n Kv) (Nat.le_add_left _ _)
theorem z2c_ok : Sound Tryz.prog 37 z2c_S := ⟨Tryz.call37, fun vs w Kv h => by
  unfold z2c_S at h
  split at h
  . have h := h.out
    rw [z2c_e] at h
    exact calls_sound (Γ := z2c_E) progMixed ⟨.inl z39_ok, trivial⟩ Tryz.func37 (code := z2c_C) (by kernel_rfl) (z2c_A Kv) Kv (holds_all (z2c_h Kv)) (Nat.le_of_ble_eq_true (by kernel_rfl)) h
  . exact h.elim⟩
/-! Rf_Crowded -/
def z1n_b1 (f_1 : Sl) (p_2 : Addr) (i_5 n_6 k_7 : Int) (N1 : Sl -> Addr -> Int -> Int -> Int -> World -> Prop) (N0 : Sl -> Addr -> Int -> World -> Prop) (K : Pw.T0) (w : World) : Prop :=
  cnd (decide (k_7 < (f_1.l : Int)))
    (let w2 := w.drew
  nz f_1.p fun a3 => (0 <= i_5 /\ i_5 < (f_1.l : Nat)) /\ ∃ x4 : Int, w2.cell? (a3.add (i_5.toNat * 1)) = some (Value.int .i64 x4) /\ cnd (decide (x4 >= (0 : Int)))
    (nz f_1.p fun a5 => (0 <= k_7 /\ k_7 < (f_1.l : Nat)) /\ ∃ x6 : Int, w2.cell? (a5.add (k_7.toNat * 1)) = some (Value.int .i64 x6) /\ cnd (decide (x6 >= (0 : Int)))
    (∃ x7 : Sl, w2.cell? (p_2.add 1) = some (Value.slice x7.p x7.l x7.c) /\ nz f_1.p fun a8 => (0 <= i_5 /\ i_5 < (f_1.l : Nat)) /\ ∃ x9 : Int, w2.cell? (a8.add (i_5.toNat * 1)) = some (Value.int .i64 x9) /\ nz x7.p fun a10 => (0 <= x9 /\ x9 < (x7.l : Nat)) /\ ∃ x11 : Int, w2.cell? ((a10.add (x9.toNat * 4)).add 1) = some (Value.int .i64 x11) /\ ∃ x12 : Sl, w2.cell? (p_2.add 1) = some (Value.slice x12.p x12.l x12.c) /\ nz f_1.p fun a13 => (0 <= k_7 /\ k_7 < (f_1.l : Nat)) /\ ∃ x14 : Int, w2.cell? (a13.add (k_7.toNat * 1)) = some (Value.int .i64 x14) /\ nz x12.p fun a15 => (0 <= x14 /\ x14 < (x12.l : Nat)) /\ ∃ x16 : Int, w2.cell? ((a15.add (x14.toNat * 4)).add 1) = some (Value.int .i64 x16) /\ cnd (x11 == x16)
    (inR .i64 (n_6 + (1 : Int)) /\ inR .i64 (k_7 + (1 : Int)) /\ N1 f_1 p_2 i_5 (n_6 + (1 : Int)) (k_7 + (1 : Int)) w2)
    (inR .i64 (k_7 + (1 : Int)) /\ N1 f_1 p_2 i_5 n_6 (k_7 + (1 : Int)) w2))
    (inR .i64 (k_7 + (1 : Int)) /\ N1 f_1 p_2 i_5 n_6 (k_7 + (1 : Int)) w2))
    (inR .i64 (k_7 + (1 : Int)) /\ N1 f_1 p_2 i_5 n_6 (k_7 + (1 : Int)) w2))
    (∃ x17 : Int, w.cell? (p_2.add 3) = some (Value.int .i64 x17) /\ cnd (decide (x17 > (0 : Int)))
    (∃ x18 : Int, w.cell? (p_2.add 3) = some (Value.int .i64 x18) /\ cnd (decide (n_6 > x18))
    (K true w)
    (inR .i64 (i_5 + (1 : Int)) /\ N0 f_1 p_2 (i_5 + (1 : Int)) w))
    (inR .i64 (i_5 + (1 : Int)) /\ N0 f_1 p_2 (i_5 + (1 : Int)) w))
def z1n_l1d (f_1 : Sl) (p_2 : Addr) (i_5 n_6 k_7 : Int) (N0 : Sl -> Addr -> Int -> World -> Prop) (K : Pw.T0) (w : World) : Prop :=
  ∃ (I : Int -> Int -> World -> Prop) (μ : Int -> Int -> World -> Nat), I n_6 k_7 w /\ ∀ (n_61 k_71 : Int) (w1 : World), I n_61 k_71 w1 ->
    z1n_b1 f_1 p_2 i_5 n_61 k_71 (fun f_1' p_2' i_5' n_6' k_7' w' => ((f_1' = f_1 /\ p_2' = p_2 /\ i_5' = i_5 /\ True) /\ I n_6' k_7' w') /\ μ n_6' k_7' w' < μ n_61 k_71 w1) N0 K w1
structure z1n_l1 (f_1 : Sl) (p_2 : Addr) (i_5 n_6 k_7 : Int) (N0 : Sl -> Addr -> Int -> World -> Prop) (K : Pw.T0) (w : World) : Prop where
  out : z1n_l1d f_1 p_2 i_5 n_6 k_7 N0 K w
def z1n_b0 (f_1 : Sl) (p_2 : Addr) (i_5 : Int) (N0 : Sl -> Addr -> Int -> World -> Prop) (K : Pw.T0) (w : World) : Prop :=
  cnd (decide (i_5 < (f_1.l : Int)))
    (z1n_l1 f_1 p_2 i_5 (0 : Int) (0 : Int) N0 K w)
    (K false w)
def z1n_l0d (f_1 : Sl) (p_2 : Addr) (i_5 : Int) (K : Pw.T0) (w : World) : Prop :=
  ∃ (I : Int -> World -> Prop) (μ : Int -> World -> Nat), I i_5 w /\ ∀ (i_51 : Int) (w1 : World), I i_51 w1 ->
    z1n_b0 f_1 p_2 i_51 (fun f_1' p_2' i_5' w' => ((f_1' = f_1 /\ p_2' = p_2 /\ True) /\ I i_5' w') /\ μ i_5' w' < μ i_51 w1) K w1
structure z1n_l0 (f_1 : Sl) (p_2 : Addr) (i_5 : Int) (K : Pw.T0) (w : World) : Prop where
  out : z1n_l0d f_1 p_2 i_5 K w
def z1n_sd (p_0_0 p_0_1 p_0_2 : Sl) (p_0_3 p_0_4 : Int) (f_1 : Sl) (K : Pw.T0) (w : World) : Prop :=
  let w1 := w.alloc (Obj.cells #[(Value.slice p_0_0.p p_0_0.l p_0_0.c), (Value.slice p_0_1.p p_0_1.l p_0_1.c), (Value.slice p_0_2.p p_0_2.l p_0_2.c), (Value.int .i64 p_0_3), (Value.int .i64 p_0_4)] 27)
  z1n_l0 f_1 (Addr.mk w.heap.size 0 none) (0 : Int) K w1
structure z1n_sh (p_0_0 p_0_1 p_0_2 : Sl) (p_0_3 p_0_4 : Int) (f_1 : Sl) (K : Pw.T0) (w : World) : Prop where
  out : z1n_sd p_0_0 p_0_1 p_0_2 p_0_3 p_0_4 f_1 K w
def z1n_P0 (Kv : VW) (ρ : Rho) (vs : List Value) (w : World) : Prop :=
  match ρ, vs with
  | _, [.slice f_1p f_1l f_1c, .pointer (some p_2), .int .i64 i_5] => z1n_l0 ⟨f_1p, f_1l, f_1c⟩ p_2 i_5 (Pw.kB Kv) w
  | _, _ => False
def z1n_P1 (Kv : VW) (ρ : Rho) (vs : List Value) (w : World) : Prop :=
  match ρ, vs with
  | N0 :: _, [.slice f_1p f_1l f_1c, .pointer (some p_2), .int .i64 i_5, .int .i64 n_6, .int .i64 k_7] => z1n_l1 ⟨f_1p, f_1l, f_1c⟩ p_2 i_5 n_6 k_7 (fun f_1' p_2' i_5' w' => N0 [(Value.slice f_1'.p f_1'.l f_1'.c), (Value.pointer (some p_2')), (Value.int .i64 i_5')] w') (Pw.kB Kv) w
  | _, _ => False
noncomputable def z1n_S : Pw.Spec := fun vs w Kv =>
  match vs with
  | [.agg ⟨[.slice p_0_0p p_0_0l p_0_0c, .slice p_0_1p p_0_1l p_0_1c, .slice p_0_2p p_0_2l p_0_2c, .int .i64 p_0_3, .int .i64 p_0_4]⟩, .slice f_1p f_1l f_1c] => z1n_sh ⟨p_0_0p, p_0_0l, p_0_0c⟩ ⟨p_0_1p, p_0_1l, p_0_1c⟩ ⟨p_0_2p, p_0_2l, p_0_2c⟩ p_0_3 p_0_4 ⟨f_1p, f_1l, f_1c⟩ (Pw.kB Kv) w
  | _ => False
noncomputable def z1n_E : Pw.Env := []
noncomputable def z1n_C : Code := (Tryz.f38.body).getD .skip
noncomputable def z1n_A (Kv : VW) : Pw.A :=
  (A.seq (A.reg (Pw.rn 2 RA.done))
   (A.seq (A.seq (A.reg (RA.run RA.done))
   (A.blk (A.loop [1, 2, 5] (z1n_P0 Kv) (A.seq (A.seq (A.reg (Pw.rn 4 RA.done))
   (A.cond A.leaf
   A.leaf))
   (A.seq (A.blk (A.seq (A.reg (RA.run RA.done))
   (A.seq (A.seq (A.reg (RA.run RA.done))
   (A.blk (A.loop [1, 2, 5, 6, 7] (z1n_P1 Kv) (A.seq (A.seq (A.reg (Pw.rn 4 RA.done))
   (A.cond A.leaf
   A.leaf))
   (A.seq (A.blk (A.seq (A.drp (DA.pur 0 (DA.pur 1 (DA.pur 2 (DA.pur 3 (DA.pur 4 (DA.pur 5 (DA.spl 25 (DA.pur 6 (DA.pur 7 (DA.pur 8 (DA.pur 9 (DA.pur 10 (DA.pur 11 (DA.pur 12 (DA.spl 32 (DA.pur 13 (DA.pur 14 (DA.pur 15 (DA.pur 16 (DA.pur 17 (DA.pur 18 (DA.pur 19 (DA.pur 20 (DA.pur 21 (DA.pur 22 (DA.pur 23 (DA.pur 24 (DA.pur 25 (DA.pur 26 (DA.pur 27 (DA.pur 28 (DA.pur 29 (DA.pur 30 (DA.pur 31 (DA.pur 32 DA.done)))))))))))))))))))) (DA.skp 13 (DA.skp 14 (DA.skp 15 (DA.skp 16 (DA.skp 17 (DA.skp 18 (DA.skp 19 (DA.skp 20 (DA.skp 21 (DA.skp 22 (DA.skp 23 (DA.skp 24 (DA.skp 25 (DA.skp 26 (DA.skp 27 (DA.skp 28 (DA.skp 29 (DA.skp 30 (DA.skp 31 (DA.pur 32 DA.done)))))))))))))))))))))))))))) (DA.skp 6 (DA.skp 7 (DA.skp 8 (DA.skp 9 (DA.skp 10 (DA.pur 11 (DA.pur 12 (DA.skp 13 (DA.skp 14 (DA.skp 15 (DA.skp 16 (DA.skp 17 (DA.skp 18 (DA.skp 19 (DA.skp 20 (DA.skp 21 (DA.skp 22 (DA.skp 23 (DA.skp 24 (DA.skp 25 (DA.skp 26 (DA.skp 27 (DA.skp 28 (DA.skp 29 (DA.skp 30 (DA.skp 31 (DA.pur 32 DA.done)))))))))))))))))))))))))))))))))))
   (A.cond (A.reg (Pw.rn 3 RA.done))
   A.leaf)))
   (A.reg (Pw.rn 3 RA.done)))))))
   (A.seq (A.reg (Pw.rn 4 (RA.spl 58 (Pw.rn 5 RA.done) (Pw.sk 4 (RA.run RA.done)))))
   (A.cond (A.seq (A.reg (RA.run RA.done))
   A.leaf)
   A.leaf)))))
   (A.reg (Pw.rn 3 RA.done)))))))
   (A.seq (A.reg (RA.run RA.done))
   A.leaf)))
noncomputable def z1n_O (Kv : VW) : List Ob := (obs Tryz.prog z1n_E 64 (z1n_A Kv) z1n_C (fun _ => retQ Tryz.prog Tryz.f38.results Kv))
theorem z1n_e (Kv : VW) (p_0_0p : Option Addr) (p_0_0l p_0_0c : Nat) (p_0_1p : Option Addr) (p_0_1l p_0_1c : Nat) (p_0_2p : Option Addr) (p_0_2l p_0_2c : Nat) (p_0_3 p_0_4 : Int) (f_1p : Option Addr) (f_1l f_1c : Nat) (w : World) : z1n_sd ⟨p_0_0p, p_0_0l, p_0_0c⟩ ⟨p_0_1p, p_0_1l, p_0_1c⟩ ⟨p_0_2p, p_0_2l, p_0_2c⟩ p_0_3 p_0_4 ⟨f_1p, f_1l, f_1c⟩ (Pw.kB Kv) w = W Tryz.prog z1n_E 64 (z1n_A Kv) z1n_C [] (retQ Tryz.prog Tryz.f38.results Kv) [] (startS [(Value.agg #[(Value.slice p_0_0p p_0_0l p_0_0c), (Value.slice p_0_1p p_0_1l p_0_1c), (Value.slice p_0_2p p_0_2l p_0_2c), (Value.int .i64 p_0_3), (Value.int .i64 p_0_4)]), (Value.slice f_1p f_1l f_1c)]) w := by kernel_rfl
theorem z1n_e0 (Kv : VW) (N0 : List Value -> World -> Prop) (ρ : Rho) (f_1p : Option Addr) (f_1l f_1c : Nat) (p_2 : Addr) (i_5 : Int) (w : World) : z1n_b0 ⟨f_1p, f_1l, f_1c⟩ p_2 i_5 (fun f_1' p_2' i_5' w' => N0 [(Value.slice f_1'.p f_1'.l f_1'.c), (Value.pointer (some p_2')), (Value.int .i64 i_5')] w') (Pw.kB Kv) w = goalAt Tryz.prog z1n_E 64 (z1n_O Kv) 0 (N0 :: ρ) [(Value.slice f_1p f_1l f_1c), (Value.pointer (some p_2)), (Value.int .i64 i_5)] w := by kernel_rfl
theorem z1n_q0 (Kv : VW) (ρ : Rho) (vs : List Value) (w : World) : labAt (z1n_O Kv) 0 ρ vs w = z1n_P0 Kv ρ vs w := by kernel_rfl
def z1n_I0 (f_10 : Sl) (p_20 : Addr) (I : Int -> World -> Prop) (vs : List Value) (w : World) : Prop :=
  match vs with
  | [.slice f_1p f_1l f_1c, .pointer (some p_2), .int .i64 i_5] => (⟨f_1p, f_1l, f_1c⟩ = f_10 /\ p_2 = p_20 /\ True) /\ I i_5 w
  | _ => False
def z1n_M0 (μ : Int -> World -> Nat) (vs : List Value) (w : World) : Nat :=
  match vs with
  | [.slice _f_1p _f_1l _f_1c, .pointer (some _p_2), .int .i64 i_5] => μ i_5 w
  | _ => 0
theorem z1n_h0 (Kv : VW) : holdsAt Tryz.prog z1n_E 64 (z1n_O Kv) 0 := holdsAt_loop (by kernel_rfl) (fun ρ vs w h => by
  rw [z1n_q0] at h
  unfold z1n_P0 at h
  split at h
  . rename_i ρt f_1p f_1l f_1c p_2 i_5
    obtain ⟨I, μ, h0, hr⟩ := h.out
    refine ⟨z1n_I0 ⟨f_1p, f_1l, f_1c⟩ p_2 I, z1n_M0 μ, ⟨⟨rfl, rfl, trivial⟩, h0⟩, fun vs w hI => ?_⟩
    unfold z1n_I0 at hI
    split at hI
    . obtain ⟨⟨h0, h1, _⟩, hI⟩ := hI
      cases h0; cases h1
      rw [← z1n_e0]
      exact hr _ _ hI
    . exact hI.elim
  . exact h.elim)
theorem z1n_e1 (Kv : VW) (N1 N0 : List Value -> World -> Prop) (ρ : Rho) (f_1p : Option Addr) (f_1l f_1c : Nat) (p_2 : Addr) (i_5 n_6 k_7 : Int) (w : World) : z1n_b1 ⟨f_1p, f_1l, f_1c⟩ p_2 i_5 n_6 k_7 (fun f_1' p_2' i_5' n_6' k_7' w' => N1 [(Value.slice f_1'.p f_1'.l f_1'.c), (Value.pointer (some p_2')), (Value.int .i64 i_5'), (Value.int .i64 n_6'), (Value.int .i64 k_7')] w') (fun f_1' p_2' i_5' w' => N0 [(Value.slice f_1'.p f_1'.l f_1'.c), (Value.pointer (some p_2')), (Value.int .i64 i_5')] w') (Pw.kB Kv) w = goalAt Tryz.prog z1n_E 64 (z1n_O Kv) 1 (N1 :: N0 :: ρ) [(Value.slice f_1p f_1l f_1c), (Value.pointer (some p_2)), (Value.int .i64 i_5), (Value.int .i64 n_6), (Value.int .i64 k_7)] w := by kernel_rfl
theorem z1n_q1 (Kv : VW) (ρ : Rho) (vs : List Value) (w : World) : labAt (z1n_O Kv) 1 ρ vs w = z1n_P1 Kv ρ vs w := by kernel_rfl
def z1n_I1 (f_10 : Sl) (p_20 : Addr) (i_50 : Int) (I : Int -> Int -> World -> Prop) (vs : List Value) (w : World) : Prop :=
  match vs with
  | [.slice f_1p f_1l f_1c, .pointer (some p_2), .int .i64 i_5, .int .i64 n_6, .int .i64 k_7] => (⟨f_1p, f_1l, f_1c⟩ = f_10 /\ p_2 = p_20 /\ i_5 = i_50 /\ True) /\ I n_6 k_7 w
  | _ => False
def z1n_M1 (μ : Int -> Int -> World -> Nat) (vs : List Value) (w : World) : Nat :=
  match vs with
  | [.slice _f_1p _f_1l _f_1c, .pointer (some _p_2), .int .i64 _i_5, .int .i64 n_6, .int .i64 k_7] => μ n_6 k_7 w
  | _ => 0
theorem z1n_h1 (Kv : VW) : holdsAt Tryz.prog z1n_E 64 (z1n_O Kv) 1 := holdsAt_loop (by kernel_rfl) (fun ρ vs w h => by
  rw [z1n_q1] at h
  unfold z1n_P1 at h
  split at h
  . rename_i N0 ρt f_1p f_1l f_1c p_2 i_5 n_6 k_7
    obtain ⟨I, μ, h0, hr⟩ := h.out
    refine ⟨z1n_I1 ⟨f_1p, f_1l, f_1c⟩ p_2 i_5 I, z1n_M1 μ, ⟨⟨rfl, rfl, rfl, trivial⟩, h0⟩, fun vs w hI => ?_⟩
    unfold z1n_I1 at hI
    split at hI
    . obtain ⟨⟨h0, h1, h2, _⟩, hI⟩ := hI
      cases h0; cases h1; cases h2
      rw [← z1n_e1]
      exact hr _ _ _ hI
    . exact hI.elim
  . exact h.elim)
theorem z1n_n (Kv : VW) : obAt (z1n_O Kv) 2 = none := by kernel_rfl
theorem z1n_h (Kv : VW) : ∀ k, holdsAt Tryz.prog z1n_E 64 (z1n_O Kv) k := fun k => match k with
  | 0 => z1n_h0 Kv
  | 1 => z1n_h1 Kv
  | _k + 2 => holdsAt_ge (z1n_n Kv) (Nat.le_add_left _ _)
theorem z1n_ok : Sound Tryz.prog 38 z1n_S := ⟨Tryz.call38, fun vs w Kv h => by
  unfold z1n_S at h
  split at h
  . have h := h.out
    rw [z1n_e] at h
    exact calls_sound (Γ := z1n_E) progMixed trivial Tryz.func38 (code := z1n_C) (by kernel_rfl) (z1n_A Kv) Kv (holds_all (z1n_h Kv)) (Nat.le_of_ble_eq_true (by kernel_rfl)) h
  . exact h.elim⟩
/-! Rf_Permitted -/
def z0v_sd (p_0_0 p_0_1 p_0_2 : Sl) (p_0_3 p_0_4 : Int) (f_1 : Sl) (K : Pw.T0) (w : World) : Prop :=
  let w1 := w.alloc (Obj.cells #[(Value.slice p_0_0.p p_0_0.l p_0_0.c), (Value.slice p_0_1.p p_0_1.l p_0_1.c), (Value.slice p_0_2.p p_0_2.l p_0_2.c), (Value.int .i64 p_0_3), (Value.int .i64 p_0_4)] 27)
  ∃ x2 : Sl, w1.cell? (Addr.mk w.heap.size 0 none) = some (Value.slice x2.p x2.l x2.c) /\ ∃ x3 : Sl, w1.cell? (Addr.mk w.heap.size 1 none) = some (Value.slice x3.p x3.l x3.c) /\ ∃ x4 : Sl, w1.cell? (Addr.mk w.heap.size 2 none) = some (Value.slice x4.p x4.l x4.c) /\ ∃ x5 : Int, w1.cell? (Addr.mk w.heap.size 3 none) = some (Value.int .i64 x5) /\ ∃ x6 : Int, w1.cell? (Addr.mk w.heap.size 4 none) = some (Value.int .i64 x6) /\ z2w_sh x2 x3 x4 x5 x6 f_1 (fun r8 w7 => let w9 := w7.drew
  ∃ S10 : World -> Prop, S10 w9 /\ cnd r8
    (∃ x11 : Sl, (∀ w' : World, S10 w' -> w'.cell? (Addr.mk w.heap.size 0 none) = some (Value.slice x11.p x11.l x11.c)) /\ ∃ x12 : Sl, (∀ w' : World, S10 w' -> w'.cell? (Addr.mk w.heap.size 1 none) = some (Value.slice x12.p x12.l x12.c)) /\ ∃ x13 : Sl, (∀ w' : World, S10 w' -> w'.cell? (Addr.mk w.heap.size 2 none) = some (Value.slice x13.p x13.l x13.c)) /\ ∃ x14 : Int, (∀ w' : World, S10 w' -> w'.cell? (Addr.mk w.heap.size 3 none) = some (Value.int .i64 x14)) /\ ∃ x15 : Int, (∀ w' : World, S10 w' -> w'.cell? (Addr.mk w.heap.size 4 none) = some (Value.int .i64 x15)) /\ ∃ x16 : Int, (∀ w' : World, S10 w' -> w'.cell? (Addr.mk w.heap.size 4 none) = some (Value.int .i64 x16)) /\ z2c_sh x11 x12 x13 x14 x15 f_1 (fun r18 w17 => S10 w17 /\ cnd (decide (r18 <= x16))
    (∃ x19 : Sl, (∀ w' : World, S10 w' -> w'.cell? (Addr.mk w.heap.size 0 none) = some (Value.slice x19.p x19.l x19.c)) /\ ∃ x20 : Sl, (∀ w' : World, S10 w' -> w'.cell? (Addr.mk w.heap.size 1 none) = some (Value.slice x20.p x20.l x20.c)) /\ ∃ x21 : Sl, (∀ w' : World, S10 w' -> w'.cell? (Addr.mk w.heap.size 2 none) = some (Value.slice x21.p x21.l x21.c)) /\ ∃ x22 : Int, (∀ w' : World, S10 w' -> w'.cell? (Addr.mk w.heap.size 3 none) = some (Value.int .i64 x22)) /\ ∃ x23 : Int, (∀ w' : World, S10 w' -> w'.cell? (Addr.mk w.heap.size 4 none) = some (Value.int .i64 x23)) /\ z1n_sh x19 x20 x21 x22 x23 f_1 (fun r25 w24 => S10 w24 /\ K (!r25) w24) w17)
    (K false w17)) w9)
    (K false w9)) w1
structure z0v_sh (p_0_0 p_0_1 p_0_2 : Sl) (p_0_3 p_0_4 : Int) (f_1 : Sl) (K : Pw.T0) (w : World) : Prop where
  out : z0v_sd p_0_0 p_0_1 p_0_2 p_0_3 p_0_4 f_1 K w
noncomputable def z0v_S : Pw.Spec := fun vs w Kv =>
  match vs with
  | [.agg ⟨[.slice p_0_0p p_0_0l p_0_0c, .slice p_0_1p p_0_1l p_0_1c, .slice p_0_2p p_0_2l p_0_2c, .int .i64 p_0_3, .int .i64 p_0_4]⟩, .slice f_1p f_1l f_1c] => z0v_sh ⟨p_0_0p, p_0_0l, p_0_0c⟩ ⟨p_0_1p, p_0_1l, p_0_1c⟩ ⟨p_0_2p, p_0_2l, p_0_2c⟩ p_0_3 p_0_4 ⟨f_1p, f_1l, f_1c⟩ (Pw.kB Kv) w
  | _ => False
noncomputable def z0v_E : Pw.Env := [(35, z2w_S), (37, z2c_S), (38, z1n_S)]
noncomputable def z0v_C : Code := (Tryz.f17.body).getD .skip
noncomputable def z0v_A (_Kv : VW) : Pw.A :=
  (A.seq (A.reg (Pw.rn 2 RA.done))
   (A.seq (A.reg (Pw.rn 4 RA.done))
   (A.seq (A.drw (DA.pur 0 (DA.pur 1 (DA.spl 10 (DA.pur 2 (DA.pur 3 (DA.pur 5 (DA.pur 6 (DA.eff 4 (DA.pur 7 (DA.pur 8 (DA.pur 9 (DA.spl 18 (DA.pur 10 (DA.pur 11 (DA.eff 12 (DA.pur 13 (DA.pur 14 (DA.pur 15 DA.done)))))) (DA.skp 10 (DA.skp 11 (DA.skp 12 (DA.skp 13 (DA.pur 14 (DA.pur 15 DA.done))))))))))))))) (DA.skp 2 (DA.skp 3 (DA.skp 5 (DA.skp 6 (DA.skp 4 (DA.skp 7 (DA.pur 8 (DA.pur 9 (DA.skp 10 (DA.skp 11 (DA.skp 12 (DA.skp 13 (DA.pur 14 (DA.pur 15 DA.done))))))))))))))))))
   A.leaf)))
noncomputable def z0v_O (Kv : VW) : List Ob := (obs Tryz.prog z0v_E 24 (z0v_A Kv) z0v_C (fun _ => retQ Tryz.prog Tryz.f17.results Kv))
theorem z0v_e (Kv : VW) (p_0_0p : Option Addr) (p_0_0l p_0_0c : Nat) (p_0_1p : Option Addr) (p_0_1l p_0_1c : Nat) (p_0_2p : Option Addr) (p_0_2l p_0_2c : Nat) (p_0_3 p_0_4 : Int) (f_1p : Option Addr) (f_1l f_1c : Nat) (w : World) : z0v_sd ⟨p_0_0p, p_0_0l, p_0_0c⟩ ⟨p_0_1p, p_0_1l, p_0_1c⟩ ⟨p_0_2p, p_0_2l, p_0_2c⟩ p_0_3 p_0_4 ⟨f_1p, f_1l, f_1c⟩ (Pw.kB Kv) w = W Tryz.prog z0v_E 24 (z0v_A Kv) z0v_C [] (retQ Tryz.prog Tryz.f17.results Kv) [] (startS [(Value.agg #[(Value.slice p_0_0p p_0_0l p_0_0c), (Value.slice p_0_1p p_0_1l p_0_1c), (Value.slice p_0_2p p_0_2l p_0_2c), (Value.int .i64 p_0_3), (Value.int .i64 p_0_4)]), (Value.slice f_1p f_1l f_1c)]) w := by kernel_rfl
theorem z0v_n (Kv : VW) : obAt (z0v_O Kv) 0 = none := by kernel_rfl
theorem z0v_h (Kv : VW) : ∀ k, holdsAt Tryz.prog z0v_E 24 (z0v_O Kv) k := fun _ => holdsAt_ge (z0v_n Kv) (Nat.zero_le _)
theorem z0v_ok : Sound Tryz.prog 17 z0v_S := ⟨Tryz.call17, fun vs w Kv h => by
  unfold z0v_S at h
  split at h
  . have h := h.out
    rw [z0v_e] at h
    exact calls_sound (Γ := z0v_E) progMixed ⟨.inl z2w_ok, .inl z2c_ok, .inl z1n_ok, trivial⟩ Tryz.func17 (code := z0v_C) (by kernel_rfl) (z0v_A Kv) Kv (holds_all (z0v_h Kv)) (Nat.le_of_ble_eq_true (by kernel_rfl)) h
  . exact h.elim⟩
/-! Rf_Points -/
def z1w_b0 (f_1 : Sl) (p_2 : Addr) (out_6 i_7 : Int) (N0 : Sl -> Addr -> Int -> Int -> World -> Prop) (K : Pw.T1) (w : World) : Prop :=
  cnd (decide (i_7 < (f_1.l : Int)))
    (nz f_1.p fun a9 => (0 <= i_7 /\ i_7 < (f_1.l : Nat)) /\ ∃ x10 : Int, w.cell? (a9.add (i_7.toNat * 1)) = some (Value.int .i64 x10) /\ cnd (decide (x10 >= (0 : Int)))
    (let w11 := w.drew
  ∃ x12 : Sl, w11.cell? (p_2.add 1) = some (Value.slice x12.p x12.l x12.c) /\ nz f_1.p fun a13 => (0 <= i_7 /\ i_7 < (f_1.l : Nat)) /\ ∃ x14 : Int, w11.cell? (a13.add (i_7.toNat * 1)) = some (Value.int .i64 x14) /\ nz x12.p fun a15 => (0 <= x14 /\ x14 < (x12.l : Nat)) /\ ∃ x16 : Int, w11.cell? ((a15.add (x14.toNat * 4)).add 3) = some (Value.int .i64 x16) /\ inR .i64 (out_6 + x16) /\ inR .i64 (i_7 + (1 : Int)) /\ N0 f_1 p_2 (out_6 + x16) (i_7 + (1 : Int)) w11)
    (inR .i64 (i_7 + (1 : Int)) /\ N0 f_1 p_2 out_6 (i_7 + (1 : Int)) w))
    (K out_6 w)
def z1w_l0d (f_1 : Sl) (p_2 : Addr) (out_6 i_7 : Int) (K : Pw.T1) (w : World) : Prop :=
  ∃ (I : Int -> Int -> World -> Prop) (μ : Int -> Int -> World -> Nat), I out_6 i_7 w /\ ∀ (out_61 i_71 : Int) (w1 : World), I out_61 i_71 w1 ->
    z1w_b0 f_1 p_2 out_61 i_71 (fun f_1' p_2' out_6' i_7' w' => ((f_1' = f_1 /\ p_2' = p_2 /\ True) /\ I out_6' i_7' w') /\ μ out_6' i_7' w' < μ out_61 i_71 w1) K w1
structure z1w_l0 (f_1 : Sl) (p_2 : Addr) (out_6 i_7 : Int) (K : Pw.T1) (w : World) : Prop where
  out : z1w_l0d f_1 p_2 out_6 i_7 K w
def z1w_sd (p_0_0 p_0_1 p_0_2 : Sl) (p_0_3 p_0_4 : Int) (f_1 : Sl) (K : Pw.T1) (w : World) : Prop :=
  let w1 := w.alloc (Obj.cells #[(Value.slice p_0_0.p p_0_0.l p_0_0.c), (Value.slice p_0_1.p p_0_1.l p_0_1.c), (Value.slice p_0_2.p p_0_2.l p_0_2.c), (Value.int .i64 p_0_3), (Value.int .i64 p_0_4)] 27)
  ∃ x2 : Sl, w1.cell? (Addr.mk w.heap.size 0 none) = some (Value.slice x2.p x2.l x2.c) /\ ∃ x3 : Sl, w1.cell? (Addr.mk w.heap.size 1 none) = some (Value.slice x3.p x3.l x3.c) /\ ∃ x4 : Sl, w1.cell? (Addr.mk w.heap.size 2 none) = some (Value.slice x4.p x4.l x4.c) /\ ∃ x5 : Int, w1.cell? (Addr.mk w.heap.size 3 none) = some (Value.int .i64 x5) /\ ∃ x6 : Int, w1.cell? (Addr.mk w.heap.size 4 none) = some (Value.int .i64 x6) /\ z2w_sh x2 x3 x4 x5 x6 f_1 (fun r8 w7 => cnd (!r8)
    (K (0 : Int) w7)
    (z1w_l0 f_1 (Addr.mk w.heap.size 0 none) (0 : Int) (0 : Int) K w7)) w1
structure z1w_sh (p_0_0 p_0_1 p_0_2 : Sl) (p_0_3 p_0_4 : Int) (f_1 : Sl) (K : Pw.T1) (w : World) : Prop where
  out : z1w_sd p_0_0 p_0_1 p_0_2 p_0_3 p_0_4 f_1 K w
def z1w_P0 (Kv : VW) (ρ : Rho) (vs : List Value) (w : World) : Prop :=
  match ρ, vs with
  | _, [.slice f_1p f_1l f_1c, .pointer (some p_2), .int .i64 out_6, .int .i64 i_7] => z1w_l0 ⟨f_1p, f_1l, f_1c⟩ p_2 out_6 i_7 (Pw.kI Kv) w
  | _, _ => False
noncomputable def z1w_S : Pw.Spec := fun vs w Kv =>
  match vs with
  | [.agg ⟨[.slice p_0_0p p_0_0l p_0_0c, .slice p_0_1p p_0_1l p_0_1c, .slice p_0_2p p_0_2l p_0_2c, .int .i64 p_0_3, .int .i64 p_0_4]⟩, .slice f_1p f_1l f_1c] => z1w_sh ⟨p_0_0p, p_0_0l, p_0_0c⟩ ⟨p_0_1p, p_0_1l, p_0_1c⟩ ⟨p_0_2p, p_0_2l, p_0_2c⟩ p_0_3 p_0_4 ⟨f_1p, f_1l, f_1c⟩ (Pw.kI Kv) w
  | _ => False
noncomputable def z1w_E : Pw.Env := [(35, z2w_S)]
noncomputable def z1w_C : Code := (Tryz.f14.body).getD .skip
noncomputable def z1w_A (Kv : VW) : Pw.A :=
  (A.seq (A.reg (Pw.rn 2 RA.done))
   (A.seq (A.reg (Pw.rn 4 RA.done))
   (A.seq (A.seq (A.reg (Pw.rn 2 RA.done))
   (A.cond (A.seq (A.reg (RA.run RA.done))
   A.leaf)
   A.leaf))
   (A.seq (A.reg (RA.run RA.done))
   (A.seq (A.seq (A.reg (RA.run RA.done))
   (A.blk (A.loop [1, 2, 6, 7] (z1w_P0 Kv) (A.seq (A.seq (A.reg (Pw.rn 4 RA.done))
   (A.cond A.leaf
   A.leaf))
   (A.seq (A.blk (A.seq (A.reg (Pw.rn 5 RA.done))
   (A.cond (A.drp (DA.pur 0 (DA.pur 1 (DA.pur 2 (DA.pur 3 (DA.pur 4 (DA.pur 5 (DA.pur 6 (DA.pur 7 (DA.pur 8 (DA.pur 9 (DA.pur 10 (DA.pur 11 DA.done)))))))))))))
   A.leaf)))
   (A.reg (Pw.rn 3 RA.done)))))))
   (A.seq (A.reg (Pw.rn 2 RA.done))
   A.leaf))))))
noncomputable def z1w_O (Kv : VW) : List Ob := (obs Tryz.prog z1w_E 36 (z1w_A Kv) z1w_C (fun _ => retQ Tryz.prog Tryz.f14.results Kv))
theorem z1w_e (Kv : VW) (p_0_0p : Option Addr) (p_0_0l p_0_0c : Nat) (p_0_1p : Option Addr) (p_0_1l p_0_1c : Nat) (p_0_2p : Option Addr) (p_0_2l p_0_2c : Nat) (p_0_3 p_0_4 : Int) (f_1p : Option Addr) (f_1l f_1c : Nat) (w : World) : z1w_sd ⟨p_0_0p, p_0_0l, p_0_0c⟩ ⟨p_0_1p, p_0_1l, p_0_1c⟩ ⟨p_0_2p, p_0_2l, p_0_2c⟩ p_0_3 p_0_4 ⟨f_1p, f_1l, f_1c⟩ (Pw.kI Kv) w = W Tryz.prog z1w_E 36 (z1w_A Kv) z1w_C [] (retQ Tryz.prog Tryz.f14.results Kv) [] (startS [(Value.agg #[(Value.slice p_0_0p p_0_0l p_0_0c), (Value.slice p_0_1p p_0_1l p_0_1c), (Value.slice p_0_2p p_0_2l p_0_2c), (Value.int .i64 p_0_3), (Value.int .i64 p_0_4)]), (Value.slice f_1p f_1l f_1c)]) w := by kernel_rfl
theorem z1w_e0 (Kv : VW) (N0 : List Value -> World -> Prop) (ρ : Rho) (f_1p : Option Addr) (f_1l f_1c : Nat) (p_2 : Addr) (out_6 i_7 : Int) (w : World) : z1w_b0 ⟨f_1p, f_1l, f_1c⟩ p_2 out_6 i_7 (fun f_1' p_2' out_6' i_7' w' => N0 [(Value.slice f_1'.p f_1'.l f_1'.c), (Value.pointer (some p_2')), (Value.int .i64 out_6'), (Value.int .i64 i_7')] w') (Pw.kI Kv) w = goalAt Tryz.prog z1w_E 36 (z1w_O Kv) 0 (N0 :: ρ) [(Value.slice f_1p f_1l f_1c), (Value.pointer (some p_2)), (Value.int .i64 out_6), (Value.int .i64 i_7)] w := by kernel_rfl
theorem z1w_q0 (Kv : VW) (ρ : Rho) (vs : List Value) (w : World) : labAt (z1w_O Kv) 0 ρ vs w = z1w_P0 Kv ρ vs w := by kernel_rfl
def z1w_I0 (f_10 : Sl) (p_20 : Addr) (I : Int -> Int -> World -> Prop) (vs : List Value) (w : World) : Prop :=
  match vs with
  | [.slice f_1p f_1l f_1c, .pointer (some p_2), .int .i64 out_6, .int .i64 i_7] => (⟨f_1p, f_1l, f_1c⟩ = f_10 /\ p_2 = p_20 /\ True) /\ I out_6 i_7 w
  | _ => False
def z1w_M0 (μ : Int -> Int -> World -> Nat) (vs : List Value) (w : World) : Nat :=
  match vs with
  | [.slice _f_1p _f_1l _f_1c, .pointer (some _p_2), .int .i64 out_6, .int .i64 i_7] => μ out_6 i_7 w
  | _ => 0
theorem z1w_h0 (Kv : VW) : holdsAt Tryz.prog z1w_E 36 (z1w_O Kv) 0 := holdsAt_loop (by kernel_rfl) (fun ρ vs w h => by
  rw [z1w_q0] at h
  unfold z1w_P0 at h
  split at h
  . rename_i ρt f_1p f_1l f_1c p_2 out_6 i_7
    obtain ⟨I, μ, h0, hr⟩ := h.out
    refine ⟨z1w_I0 ⟨f_1p, f_1l, f_1c⟩ p_2 I, z1w_M0 μ, ⟨⟨rfl, rfl, trivial⟩, h0⟩, fun vs w hI => ?_⟩
    unfold z1w_I0 at hI
    split at hI
    . obtain ⟨⟨h0, h1, _⟩, hI⟩ := hI
      cases h0; cases h1
      rw [← z1w_e0]
      exact hr _ _ _ hI
    . exact hI.elim
  . exact h.elim)
theorem z1w_n (Kv : VW) : obAt (z1w_O Kv) 1 = none := by kernel_rfl
theorem z1w_h (Kv : VW) : ∀ k, holdsAt Tryz.prog z1w_E 36 (z1w_O Kv) k := fun k => match k with
  | 0 => z1w_h0 Kv
  | _k + 1 => holdsAt_ge (z1w_n Kv) (Nat.le_add_left _ _)
theorem z1w_ok : Sound Tryz.prog 14 z1w_S := ⟨Tryz.call14, fun vs w Kv h => by
  unfold z1w_S at h
  split at h
  . have h := h.out
    rw [z1w_e] at h
    exact calls_sound (Γ := z1w_E) progMixed ⟨.inl z2w_ok, trivial⟩ Tryz.func14 (code := z1w_C) (by kernel_rfl) (z1w_A Kv) Kv (holds_all (z1w_h Kv)) (Nat.le_of_ble_eq_true (by kernel_rfl)) h
  . exact h.elim⟩
/-! Rf_Value -/
def z2f_sd (p_0_0 p_0_1 p_0_2 : Sl) (p_0_3 p_0_4 : Int) (f_1 : Sl) (K : Pw.T1) (w : World) : Prop :=
  let w1 := w.alloc (Obj.cells #[(Value.slice p_0_0.p p_0_0.l p_0_0.c), (Value.slice p_0_1.p p_0_1.l p_0_1.c), (Value.slice p_0_2.p p_0_2.l p_0_2.c), (Value.int .i64 p_0_3), (Value.int .i64 p_0_4)] 27)
  let w2 := w1.drew
  ∃ S3 : World -> Prop, S3 w2 /\ ∃ x4 : Sl, (∀ w' : World, S3 w' -> w'.cell? (Addr.mk w.heap.size 0 none) = some (Value.slice x4.p x4.l x4.c)) /\ ∃ x5 : Sl, (∀ w' : World, S3 w' -> w'.cell? (Addr.mk w.heap.size 1 none) = some (Value.slice x5.p x5.l x5.c)) /\ ∃ x6 : Sl, (∀ w' : World, S3 w' -> w'.cell? (Addr.mk w.heap.size 2 none) = some (Value.slice x6.p x6.l x6.c)) /\ ∃ x7 : Int, (∀ w' : World, S3 w' -> w'.cell? (Addr.mk w.heap.size 3 none) = some (Value.int .i64 x7)) /\ ∃ x8 : Int, (∀ w' : World, S3 w' -> w'.cell? (Addr.mk w.heap.size 4 none) = some (Value.int .i64 x8)) /\ ∃ x9 : Int, (∀ w' : World, S3 w' -> w'.cell? (Addr.mk w.heap.size 4 none) = some (Value.int .i64 x9)) /\ inR .i64 (x9 + (1 : Int)) /\ ∃ x10 : Sl, (∀ w' : World, S3 w' -> w'.cell? (Addr.mk w.heap.size 0 none) = some (Value.slice x10.p x10.l x10.c)) /\ ∃ x11 : Sl, (∀ w' : World, S3 w' -> w'.cell? (Addr.mk w.heap.size 1 none) = some (Value.slice x11.p x11.l x11.c)) /\ ∃ x12 : Sl, (∀ w' : World, S3 w' -> w'.cell? (Addr.mk w.heap.size 2 none) = some (Value.slice x12.p x12.l x12.c)) /\ ∃ x13 : Int, (∀ w' : World, S3 w' -> w'.cell? (Addr.mk w.heap.size 3 none) = some (Value.int .i64 x13)) /\ ∃ x14 : Int, (∀ w' : World, S3 w' -> w'.cell? (Addr.mk w.heap.size 4 none) = some (Value.int .i64 x14)) /\ z1w_sh x4 x5 x6 x7 x8 f_1 (fun r16 w15 => S3 w15 /\ inR .i64 (r16 * (x9 + (1 : Int))) /\ z2c_sh x10 x11 x12 x13 x14 f_1 (fun r18 w17 => S3 w17 /\ inR .i64 ((r16 * (x9 + (1 : Int))) - r18) /\ K ((r16 * (x9 + (1 : Int))) - r18) w17) w15) w2
structure z2f_sh (p_0_0 p_0_1 p_0_2 : Sl) (p_0_3 p_0_4 : Int) (f_1 : Sl) (K : Pw.T1) (w : World) : Prop where
  out : z2f_sd p_0_0 p_0_1 p_0_2 p_0_3 p_0_4 f_1 K w
noncomputable def z2f_S : Pw.Spec := fun vs w Kv =>
  match vs with
  | [.agg ⟨[.slice p_0_0p p_0_0l p_0_0c, .slice p_0_1p p_0_1l p_0_1c, .slice p_0_2p p_0_2l p_0_2c, .int .i64 p_0_3, .int .i64 p_0_4]⟩, .slice f_1p f_1l f_1c] => z2f_sh ⟨p_0_0p, p_0_0l, p_0_0c⟩ ⟨p_0_1p, p_0_1l, p_0_1c⟩ ⟨p_0_2p, p_0_2l, p_0_2c⟩ p_0_3 p_0_4 ⟨f_1p, f_1l, f_1c⟩ (Pw.kI Kv) w
  | _ => False
noncomputable def z2f_E : Pw.Env := [(14, z1w_S), (37, z2c_S)]
noncomputable def z2f_C : Code := (Tryz.f42.body).getD .skip
noncomputable def z2f_A (_Kv : VW) : Pw.A :=
  (A.seq (A.reg (Pw.rn 2 RA.done))
   (A.seq (A.drw (DA.pur 0 (DA.pur 1 (DA.pur 3 (DA.pur 4 (DA.pur 5 (DA.pur 7 (DA.pur 8 (DA.eff 2 (DA.pur 6 (DA.eff 9 (DA.pur 10 (DA.pur 11 DA.done)))))))))))))
   A.leaf))
noncomputable def z2f_O (Kv : VW) : List Ob := (obs Tryz.prog z2f_E 16 (z2f_A Kv) z2f_C (fun _ => retQ Tryz.prog Tryz.f42.results Kv))
theorem z2f_e (Kv : VW) (p_0_0p : Option Addr) (p_0_0l p_0_0c : Nat) (p_0_1p : Option Addr) (p_0_1l p_0_1c : Nat) (p_0_2p : Option Addr) (p_0_2l p_0_2c : Nat) (p_0_3 p_0_4 : Int) (f_1p : Option Addr) (f_1l f_1c : Nat) (w : World) : z2f_sd ⟨p_0_0p, p_0_0l, p_0_0c⟩ ⟨p_0_1p, p_0_1l, p_0_1c⟩ ⟨p_0_2p, p_0_2l, p_0_2c⟩ p_0_3 p_0_4 ⟨f_1p, f_1l, f_1c⟩ (Pw.kI Kv) w = W Tryz.prog z2f_E 16 (z2f_A Kv) z2f_C [] (retQ Tryz.prog Tryz.f42.results Kv) [] (startS [(Value.agg #[(Value.slice p_0_0p p_0_0l p_0_0c), (Value.slice p_0_1p p_0_1l p_0_1c), (Value.slice p_0_2p p_0_2l p_0_2c), (Value.int .i64 p_0_3), (Value.int .i64 p_0_4)]), (Value.slice f_1p f_1l f_1c)]) w := by kernel_rfl
theorem z2f_n (Kv : VW) : obAt (z2f_O Kv) 0 = none := by kernel_rfl
theorem z2f_h (Kv : VW) : ∀ k, holdsAt Tryz.prog z2f_E 16 (z2f_O Kv) k := fun _ => holdsAt_ge (z2f_n Kv) (Nat.zero_le _)
theorem z2f_ok : Sound Tryz.prog 42 z2f_S := ⟨Tryz.call42, fun vs w Kv h => by
  unfold z2f_S at h
  split at h
  . have h := h.out
    rw [z2f_e] at h
    exact calls_sound (Γ := z2f_E) progMixed ⟨.inl z1w_ok, .inl z2c_ok, trivial⟩ Tryz.func42 (code := z2f_C) (by kernel_rfl) (z2f_A Kv) Kv (holds_all (z2f_h Kv)) (Nat.le_of_ble_eq_true (by kernel_rfl)) h
  . exact h.elim⟩
/-! Rf_Greater -/
def z1a_b0 (f_0 t_1 : Sl) (i_5 : Int) (N0 : Sl -> Sl -> Int -> World -> Prop) (K : Pw.T0) (w : World) : Prop :=
  cnd (decide (i_5 < (f_0.l : Int)))
    (cnd (decide (i_5 < (t_1.l : Int)))
    (let w1 := w.drew
  nz f_0.p fun a2 => (0 <= i_5 /\ i_5 < (f_0.l : Nat)) /\ ∃ x3 : Int, w1.cell? (a2.add (i_5.toNat * 1)) = some (Value.int .i64 x3) /\ nz t_1.p fun a4 => (0 <= i_5 /\ i_5 < (t_1.l : Nat)) /\ ∃ x5 : Int, w1.cell? (a4.add (i_5.toNat * 1)) = some (Value.int .i64 x5) /\ cnd (x3 != x5)
    (let w6 := w1.drew
  nz f_0.p fun a7 => (0 <= i_5 /\ i_5 < (f_0.l : Nat)) /\ ∃ x8 : Int, w6.cell? (a7.add (i_5.toNat * 1)) = some (Value.int .i64 x8) /\ nz t_1.p fun a9 => (0 <= i_5 /\ i_5 < (t_1.l : Nat)) /\ ∃ x10 : Int, w6.cell? (a9.add (i_5.toNat * 1)) = some (Value.int .i64 x10) /\ K (decide (x8 > x10)) w6)
    (inR .i64 (i_5 + (1 : Int)) /\ N0 f_0 t_1 (i_5 + (1 : Int)) w1))
    (K false w))
    (K false w)
def z1a_l0d (f_0 t_1 : Sl) (i_5 : Int) (K : Pw.T0) (w : World) : Prop :=
  ∃ (I : Int -> World -> Prop) (μ : Int -> World -> Nat), I i_5 w /\ ∀ (i_51 : Int) (w1 : World), I i_51 w1 ->
    z1a_b0 f_0 t_1 i_51 (fun f_0' t_1' i_5' w' => ((f_0' = f_0 /\ t_1' = t_1 /\ True) /\ I i_5' w') /\ μ i_5' w' < μ i_51 w1) K w1
structure z1a_l0 (f_0 t_1 : Sl) (i_5 : Int) (K : Pw.T0) (w : World) : Prop where
  out : z1a_l0d f_0 t_1 i_5 K w
def z1a_sd (f_0 t_1 : Sl) (K : Pw.T0) (w : World) : Prop :=
  z1a_l0 f_0 t_1 (0 : Int) K w
structure z1a_sh (f_0 t_1 : Sl) (K : Pw.T0) (w : World) : Prop where
  out : z1a_sd f_0 t_1 K w
def z1a_P0 (Kv : VW) (ρ : Rho) (vs : List Value) (w : World) : Prop :=
  match ρ, vs with
  | _, [.slice f_0p f_0l f_0c, .slice t_1p t_1l t_1c, .int .i64 i_5] => z1a_l0 ⟨f_0p, f_0l, f_0c⟩ ⟨t_1p, t_1l, t_1c⟩ i_5 (Pw.kB Kv) w
  | _, _ => False
noncomputable def z1a_S : Pw.Spec := fun vs w Kv =>
  match vs with
  | [.slice f_0p f_0l f_0c, .slice t_1p t_1l t_1c] => z1a_sh ⟨f_0p, f_0l, f_0c⟩ ⟨t_1p, t_1l, t_1c⟩ (Pw.kB Kv) w
  | _ => False
noncomputable def z1a_E : Pw.Env := []
noncomputable def z1a_C : Code := (Tryz.f43.body).getD .skip
noncomputable def z1a_A (Kv : VW) : Pw.A :=
  (A.seq (A.reg (RA.run RA.done))
   (A.seq (A.seq (A.reg (RA.run RA.done))
   (A.blk (A.loop [0, 1, 5] (z1a_P0 Kv) (A.seq (A.seq (A.reg (Pw.rn 5 (RA.spl 10 (Pw.rn 5 RA.done) (Pw.sk 4 (RA.run RA.done)))))
   (A.cond A.leaf
   A.leaf))
   (A.seq (A.blk (A.seq (A.drp (DA.pur 0 (DA.pur 1 (DA.pur 2 (DA.pur 3 (DA.pur 4 (DA.pur 5 (DA.pur 6 (DA.pur 7 (DA.pur 8 DA.done))))))))))
   (A.cond (A.seq (A.drp (DA.pur 0 (DA.pur 1 (DA.pur 2 (DA.pur 3 (DA.pur 4 (DA.pur 5 (DA.pur 6 (DA.pur 7 (DA.pur 8 (DA.pur 9 DA.done)))))))))))
   A.leaf)
   A.leaf)))
   (A.reg (Pw.rn 3 RA.done)))))))
   (A.seq (A.reg (RA.run RA.done))
   A.leaf)))
noncomputable def z1a_O (Kv : VW) : List Ob := (obs Tryz.prog z1a_E 36 (z1a_A Kv) z1a_C (fun _ => retQ Tryz.prog Tryz.f43.results Kv))
theorem z1a_e (Kv : VW) (f_0p : Option Addr) (f_0l f_0c : Nat) (t_1p : Option Addr) (t_1l t_1c : Nat) (w : World) : z1a_sd ⟨f_0p, f_0l, f_0c⟩ ⟨t_1p, t_1l, t_1c⟩ (Pw.kB Kv) w = W Tryz.prog z1a_E 36 (z1a_A Kv) z1a_C [] (retQ Tryz.prog Tryz.f43.results Kv) [] (startS [(Value.slice f_0p f_0l f_0c), (Value.slice t_1p t_1l t_1c)]) w := by kernel_rfl
theorem z1a_e0 (Kv : VW) (N0 : List Value -> World -> Prop) (ρ : Rho) (f_0p : Option Addr) (f_0l f_0c : Nat) (t_1p : Option Addr) (t_1l t_1c : Nat) (i_5 : Int) (w : World) : z1a_b0 ⟨f_0p, f_0l, f_0c⟩ ⟨t_1p, t_1l, t_1c⟩ i_5 (fun f_0' t_1' i_5' w' => N0 [(Value.slice f_0'.p f_0'.l f_0'.c), (Value.slice t_1'.p t_1'.l t_1'.c), (Value.int .i64 i_5')] w') (Pw.kB Kv) w = goalAt Tryz.prog z1a_E 36 (z1a_O Kv) 0 (N0 :: ρ) [(Value.slice f_0p f_0l f_0c), (Value.slice t_1p t_1l t_1c), (Value.int .i64 i_5)] w := by kernel_rfl
theorem z1a_q0 (Kv : VW) (ρ : Rho) (vs : List Value) (w : World) : labAt (z1a_O Kv) 0 ρ vs w = z1a_P0 Kv ρ vs w := by kernel_rfl
def z1a_I0 (f_00 t_10 : Sl) (I : Int -> World -> Prop) (vs : List Value) (w : World) : Prop :=
  match vs with
  | [.slice f_0p f_0l f_0c, .slice t_1p t_1l t_1c, .int .i64 i_5] => (⟨f_0p, f_0l, f_0c⟩ = f_00 /\ ⟨t_1p, t_1l, t_1c⟩ = t_10 /\ True) /\ I i_5 w
  | _ => False
def z1a_M0 (μ : Int -> World -> Nat) (vs : List Value) (w : World) : Nat :=
  match vs with
  | [.slice _f_0p _f_0l _f_0c, .slice _t_1p _t_1l _t_1c, .int .i64 i_5] => μ i_5 w
  | _ => 0
theorem z1a_h0 (Kv : VW) : holdsAt Tryz.prog z1a_E 36 (z1a_O Kv) 0 := holdsAt_loop (by kernel_rfl) (fun ρ vs w h => by
  rw [z1a_q0] at h
  unfold z1a_P0 at h
  split at h
  . rename_i ρt f_0p f_0l f_0c t_1p t_1l t_1c i_5
    obtain ⟨I, μ, h0, hr⟩ := h.out
    refine ⟨z1a_I0 ⟨f_0p, f_0l, f_0c⟩ ⟨t_1p, t_1l, t_1c⟩ I, z1a_M0 μ, ⟨⟨rfl, rfl, trivial⟩, h0⟩, fun vs w hI => ?_⟩
    unfold z1a_I0 at hI
    split at hI
    . obtain ⟨⟨h0, h1, _⟩, hI⟩ := hI
      cases h0; cases h1
      rw [← z1a_e0]
      exact hr _ _ hI
    . exact hI.elim
  . exact h.elim)
theorem z1a_n (Kv : VW) : obAt (z1a_O Kv) 1 = none := by kernel_rfl
theorem z1a_h (Kv : VW) : ∀ k, holdsAt Tryz.prog z1a_E 36 (z1a_O Kv) k := fun k => match k with
  | 0 => z1a_h0 Kv
  | _k + 1 => holdsAt_ge (z1a_n Kv) (Nat.le_add_left _ _)
theorem z1a_ok : Sound Tryz.prog 43 z1a_S := ⟨Tryz.call43, fun vs w Kv h => by
  unfold z1a_S at h
  split at h
  . have h := h.out
    rw [z1a_e] at h
    exact calls_sound (Γ := z1a_E) progMixed trivial Tryz.func43 (code := z1a_C) (by kernel_rfl) (z1a_A Kv) Kv (holds_all (z1a_h Kv)) (Nat.le_of_ble_eq_true (by kernel_rfl)) h
  . exact h.elim⟩
/-! Rf_Better -/
def z1u_sd (p_0_0 p_0_1 p_0_2 : Sl) (p_0_3 p_0_4 : Int) (a_1 b_2 : Sl) (K : Pw.T0) (w : World) : Prop :=
  let w1 := w.alloc (Obj.cells #[(Value.slice p_0_0.p p_0_0.l p_0_0.c), (Value.slice p_0_1.p p_0_1.l p_0_1.c), (Value.slice p_0_2.p p_0_2.l p_0_2.c), (Value.int .i64 p_0_3), (Value.int .i64 p_0_4)] 27)
  ∃ x2 : Sl, w1.cell? (Addr.mk w.heap.size 0 none) = some (Value.slice x2.p x2.l x2.c) /\ ∃ x3 : Sl, w1.cell? (Addr.mk w.heap.size 1 none) = some (Value.slice x3.p x3.l x3.c) /\ ∃ x4 : Sl, w1.cell? (Addr.mk w.heap.size 2 none) = some (Value.slice x4.p x4.l x4.c) /\ ∃ x5 : Int, w1.cell? (Addr.mk w.heap.size 3 none) = some (Value.int .i64 x5) /\ ∃ x6 : Int, w1.cell? (Addr.mk w.heap.size 4 none) = some (Value.int .i64 x6) /\ z0v_sh x2 x3 x4 x5 x6 a_1 (fun r8 w7 => ∃ x9 : Sl, w7.cell? (Addr.mk w.heap.size 0 none) = some (Value.slice x9.p x9.l x9.c) /\ ∃ x10 : Sl, w7.cell? (Addr.mk w.heap.size 1 none) = some (Value.slice x10.p x10.l x10.c) /\ ∃ x11 : Sl, w7.cell? (Addr.mk w.heap.size 2 none) = some (Value.slice x11.p x11.l x11.c) /\ ∃ x12 : Int, w7.cell? (Addr.mk w.heap.size 3 none) = some (Value.int .i64 x12) /\ ∃ x13 : Int, w7.cell? (Addr.mk w.heap.size 4 none) = some (Value.int .i64 x13) /\ z0v_sh x9 x10 x11 x12 x13 b_2 (fun r15 w14 => cnd (!r8)
    (K r8 w14)
    (cnd (!r15)
    (K r8 w14)
    (∃ x16 : Sl, w14.cell? (Addr.mk w.heap.size 0 none) = some (Value.slice x16.p x16.l x16.c) /\ ∃ x17 : Sl, w14.cell? (Addr.mk w.heap.size 1 none) = some (Value.slice x17.p x17.l x17.c) /\ ∃ x18 : Sl, w14.cell? (Addr.mk w.heap.size 2 none) = some (Value.slice x18.p x18.l x18.c) /\ ∃ x19 : Int, w14.cell? (Addr.mk w.heap.size 3 none) = some (Value.int .i64 x19) /\ ∃ x20 : Int, w14.cell? (Addr.mk w.heap.size 4 none) = some (Value.int .i64 x20) /\ z2f_sh x16 x17 x18 x19 x20 a_1 (fun r22 w21 => ∃ x23 : Sl, w21.cell? (Addr.mk w.heap.size 0 none) = some (Value.slice x23.p x23.l x23.c) /\ ∃ x24 : Sl, w21.cell? (Addr.mk w.heap.size 1 none) = some (Value.slice x24.p x24.l x24.c) /\ ∃ x25 : Sl, w21.cell? (Addr.mk w.heap.size 2 none) = some (Value.slice x25.p x25.l x25.c) /\ ∃ x26 : Int, w21.cell? (Addr.mk w.heap.size 3 none) = some (Value.int .i64 x26) /\ ∃ x27 : Int, w21.cell? (Addr.mk w.heap.size 4 none) = some (Value.int .i64 x27) /\ z2f_sh x23 x24 x25 x26 x27 b_2 (fun r29 w28 => cnd (decide (r22 > r29))
    (K true w28)
    (cnd (r22 == r29)
    (z1a_sh b_2 a_1 (fun r31 w30 => K r31 w30) w28)
    (K false w28))) w21) w14))) w7) w1
structure z1u_sh (p_0_0 p_0_1 p_0_2 : Sl) (p_0_3 p_0_4 : Int) (a_1 b_2 : Sl) (K : Pw.T0) (w : World) : Prop where
  out : z1u_sd p_0_0 p_0_1 p_0_2 p_0_3 p_0_4 a_1 b_2 K w
noncomputable def z1u_S : Pw.Spec := fun vs w Kv =>
  match vs with
  | [.agg ⟨[.slice p_0_0p p_0_0l p_0_0c, .slice p_0_1p p_0_1l p_0_1c, .slice p_0_2p p_0_2l p_0_2c, .int .i64 p_0_3, .int .i64 p_0_4]⟩, .slice a_1p a_1l a_1c, .slice b_2p b_2l b_2c] => z1u_sh ⟨p_0_0p, p_0_0l, p_0_0c⟩ ⟨p_0_1p, p_0_1l, p_0_1c⟩ ⟨p_0_2p, p_0_2l, p_0_2c⟩ p_0_3 p_0_4 ⟨a_1p, a_1l, a_1c⟩ ⟨b_2p, b_2l, b_2c⟩ (Pw.kB Kv) w
  | _ => False
noncomputable def z1u_E : Pw.Env := [(17, z0v_S), (42, z2f_S), (43, z1a_S)]
noncomputable def z1u_C : Code := (Tryz.f21.body).getD .skip
noncomputable def z1u_A (_Kv : VW) : Pw.A :=
  (A.seq (A.reg (Pw.rn 2 RA.done))
   (A.seq (A.reg (Pw.rn 4 RA.done))
   (A.seq (A.reg (Pw.rn 4 RA.done))
   (A.seq (A.seq (A.reg (Pw.rn 3 (RA.spl 19 (Pw.sk 2 (RA.run RA.done)) (Pw.rn 3 RA.done))))
   (A.cond (A.seq (A.reg (Pw.rn 2 RA.done))
   A.leaf)
   A.leaf))
   (A.seq (A.reg (Pw.rn 4 RA.done))
   (A.seq (A.reg (Pw.rn 4 RA.done))
   (A.seq (A.reg (Pw.rn 4 (RA.spl 33 (Pw.sk 8 (Pw.rn 2 RA.done)) (Pw.rn 4 (RA.spl 37 (Pw.rn 6 RA.done) (Pw.sk 3 (Pw.rn 3 RA.done)))))))
   A.leaf)))))))
noncomputable def z1u_O (Kv : VW) : List Ob := (obs Tryz.prog z1u_E 43 (z1u_A Kv) z1u_C (fun _ => retQ Tryz.prog Tryz.f21.results Kv))
theorem z1u_e (Kv : VW) (p_0_0p : Option Addr) (p_0_0l p_0_0c : Nat) (p_0_1p : Option Addr) (p_0_1l p_0_1c : Nat) (p_0_2p : Option Addr) (p_0_2l p_0_2c : Nat) (p_0_3 p_0_4 : Int) (a_1p : Option Addr) (a_1l a_1c : Nat) (b_2p : Option Addr) (b_2l b_2c : Nat) (w : World) : z1u_sd ⟨p_0_0p, p_0_0l, p_0_0c⟩ ⟨p_0_1p, p_0_1l, p_0_1c⟩ ⟨p_0_2p, p_0_2l, p_0_2c⟩ p_0_3 p_0_4 ⟨a_1p, a_1l, a_1c⟩ ⟨b_2p, b_2l, b_2c⟩ (Pw.kB Kv) w = W Tryz.prog z1u_E 43 (z1u_A Kv) z1u_C [] (retQ Tryz.prog Tryz.f21.results Kv) [] (startS [(Value.agg #[(Value.slice p_0_0p p_0_0l p_0_0c), (Value.slice p_0_1p p_0_1l p_0_1c), (Value.slice p_0_2p p_0_2l p_0_2c), (Value.int .i64 p_0_3), (Value.int .i64 p_0_4)]), (Value.slice a_1p a_1l a_1c), (Value.slice b_2p b_2l b_2c)]) w := by kernel_rfl
theorem z1u_n (Kv : VW) : obAt (z1u_O Kv) 0 = none := by kernel_rfl
theorem z1u_h (Kv : VW) : ∀ k, holdsAt Tryz.prog z1u_E 43 (z1u_O Kv) k := fun _ => holdsAt_ge (z1u_n Kv) (Nat.zero_le _)
theorem z1u_ok : Sound Tryz.prog 21 z1u_S := ⟨Tryz.call21, fun vs w Kv h => by
  unfold z1u_S at h
  split at h
  . have h := h.out
    rw [z1u_e] at h
    exact calls_sound (Γ := z1u_E) progMixed ⟨.inl z0v_ok, .inl z2f_ok, .inl z1a_ok, trivial⟩ Tryz.func21 (code := z1u_C) (by kernel_rfl) (z1u_A Kv) Kv (holds_all (z1u_h Kv)) (Nat.le_of_ble_eq_true (by kernel_rfl)) h
  . exact h.elim⟩
/-! Rf_options -/
def z1j_b0 (k_1 : Int) (p_2 : Addr) (out_5 : Sl) (i_6 : Int) (N0 : Int -> Addr -> Sl -> Int -> World -> Prop) (K : Pw.T4) (w : World) : Prop :=
  ∃ x3 : Sl, w.cell? (p_2.add 1) = some (Value.slice x3.p x3.l x3.c) /\ cnd (decide (i_6 < (x3.l : Int)))
    (let w4 := w.drew
  ∃ x5 : Sl, w4.cell? (p_2.add 1) = some (Value.slice x5.p x5.l x5.c) /\ nz x5.p fun a6 => (0 <= i_6 /\ i_6 < (x5.l : Nat)) /\ ∃ x7 : Int, w4.cell? (a6.add (i_6.toNat * 4)) = some (Value.int .i64 x7) /\ ∃ x8 : Sl, w4.cell? p_2 = some (Value.slice x8.p x8.l x8.c) /\ nz x8.p fun a9 => (0 <= k_1 /\ k_1 < (x8.l : Nat)) /\ ∃ x10 : Int, w4.cell? (a9.add (k_1.toNat * 1)) = some (Value.int .i64 x10) /\ cnd (x7 == x10)
    (let w11 := w4.alloc (Obj.cells #[(Value.int .i64 i_6)] 3)
  apS 1 8 [(Value.int .i64 0)] 3 out_5 (Sl.mk (some (Addr.mk w4.heap.size 0 none)) 1 1) w11 fun s12 w13 => inR .i64 (i_6 + (1 : Int)) /\ N0 k_1 p_2 s12 (i_6 + (1 : Int)) w13)
    (inR .i64 (i_6 + (1 : Int)) /\ N0 k_1 p_2 out_5 (i_6 + (1 : Int)) w4))
    (K out_5 w)
def z1j_l0d (k_1 : Int) (p_2 : Addr) (out_5 : Sl) (i_6 : Int) (K : Pw.T4) (w : World) : Prop :=
  ∃ (I : Sl -> Int -> World -> Prop) (μ : Sl -> Int -> World -> Nat), I out_5 i_6 w /\ ∀ (out_51 : Sl) (i_61 : Int) (w1 : World), I out_51 i_61 w1 ->
    z1j_b0 k_1 p_2 out_51 i_61 (fun k_1' p_2' out_5' i_6' w' => ((k_1' = k_1 /\ p_2' = p_2 /\ True) /\ I out_5' i_6' w') /\ μ out_5' i_6' w' < μ out_51 i_61 w1) K w1
structure z1j_l0 (k_1 : Int) (p_2 : Addr) (out_5 : Sl) (i_6 : Int) (K : Pw.T4) (w : World) : Prop where
  out : z1j_l0d k_1 p_2 out_5 i_6 K w
def z1j_sd (p_0_0 p_0_1 p_0_2 : Sl) (p_0_3 p_0_4 k_1 : Int) (K : Pw.T4) (w : World) : Prop :=
  let w1 := w.alloc (Obj.cells #[(Value.slice p_0_0.p p_0_0.l p_0_0.c), (Value.slice p_0_1.p p_0_1.l p_0_1.c), (Value.slice p_0_2.p p_0_2.l p_0_2.c), (Value.int .i64 p_0_3), (Value.int .i64 p_0_4)] 27)
  let w2 := w1.alloc (Obj.cells #[(Value.int .i64 (-1))] 3)
  z1j_l0 k_1 (Addr.mk w.heap.size 0 none) (Sl.mk (some (Addr.mk w1.heap.size 0 none)) 1 1) (0 : Int) K w2
structure z1j_sh (p_0_0 p_0_1 p_0_2 : Sl) (p_0_3 p_0_4 k_1 : Int) (K : Pw.T4) (w : World) : Prop where
  out : z1j_sd p_0_0 p_0_1 p_0_2 p_0_3 p_0_4 k_1 K w
def z1j_P0 (Kv : VW) (ρ : Rho) (vs : List Value) (w : World) : Prop :=
  match ρ, vs with
  | _, [.int .i64 k_1, .pointer (some p_2), .slice out_5p out_5l out_5c, .int .i64 i_6] => z1j_l0 k_1 p_2 ⟨out_5p, out_5l, out_5c⟩ i_6 (Pw.kS Kv) w
  | _, _ => False
noncomputable def z1j_S : Pw.Spec := fun vs w Kv =>
  match vs with
  | [.agg ⟨[.slice p_0_0p p_0_0l p_0_0c, .slice p_0_1p p_0_1l p_0_1c, .slice p_0_2p p_0_2l p_0_2c, .int .i64 p_0_3, .int .i64 p_0_4]⟩, .int .i64 k_1] => z1j_sh ⟨p_0_0p, p_0_0l, p_0_0c⟩ ⟨p_0_1p, p_0_1l, p_0_1c⟩ ⟨p_0_2p, p_0_2l, p_0_2c⟩ p_0_3 p_0_4 k_1 (Pw.kS Kv) w
  | _ => False
noncomputable def z1j_E : Pw.Env := []
noncomputable def z1j_C : Code := (Tryz.f61.body).getD .skip
noncomputable def z1j_A (Kv : VW) : Pw.A :=
  (A.seq (A.reg (Pw.rn 2 RA.done))
   (A.seq (A.reg (Pw.rn 2 RA.done))
   (A.seq (A.seq (A.reg (RA.run RA.done))
   (A.blk (A.loop [1, 2, 5, 6] (z1j_P0 Kv) (A.seq (A.seq (A.reg (Pw.rn 5 RA.done))
   (A.cond A.leaf
   A.leaf))
   (A.seq (A.blk (A.seq (A.drp (DA.pur 0 (DA.pur 1 (DA.pur 2 (DA.pur 3 (DA.pur 4 (DA.pur 5 (DA.pur 6 (DA.pur 7 (DA.pur 8 (DA.pur 9 (DA.pur 10 (DA.pur 11 DA.done)))))))))))))
   (A.cond (A.reg (Pw.rn 5 RA.done))
   A.leaf)))
   (A.reg (Pw.rn 3 RA.done)))))))
   (A.seq (A.reg (Pw.rn 2 RA.done))
   A.leaf))))
noncomputable def z1j_O (Kv : VW) : List Ob := (obs Tryz.prog z1j_E 32 (z1j_A Kv) z1j_C (fun _ => retQ Tryz.prog Tryz.f61.results Kv))
theorem z1j_e (Kv : VW) (p_0_0p : Option Addr) (p_0_0l p_0_0c : Nat) (p_0_1p : Option Addr) (p_0_1l p_0_1c : Nat) (p_0_2p : Option Addr) (p_0_2l p_0_2c : Nat) (p_0_3 p_0_4 k_1 : Int) (w : World) : z1j_sd ⟨p_0_0p, p_0_0l, p_0_0c⟩ ⟨p_0_1p, p_0_1l, p_0_1c⟩ ⟨p_0_2p, p_0_2l, p_0_2c⟩ p_0_3 p_0_4 k_1 (Pw.kS Kv) w = W Tryz.prog z1j_E 32 (z1j_A Kv) z1j_C [] (retQ Tryz.prog Tryz.f61.results Kv) [] (startS [(Value.agg #[(Value.slice p_0_0p p_0_0l p_0_0c), (Value.slice p_0_1p p_0_1l p_0_1c), (Value.slice p_0_2p p_0_2l p_0_2c), (Value.int .i64 p_0_3), (Value.int .i64 p_0_4)]), (Value.int .i64 k_1)]) w := by kernel_rfl
theorem z1j_e0 (Kv : VW) (N0 : List Value -> World -> Prop) (ρ : Rho) (k_1 : Int) (p_2 : Addr) (out_5p : Option Addr) (out_5l out_5c : Nat) (i_6 : Int) (w : World) : z1j_b0 k_1 p_2 ⟨out_5p, out_5l, out_5c⟩ i_6 (fun k_1' p_2' out_5' i_6' w' => N0 [(Value.int .i64 k_1'), (Value.pointer (some p_2')), (Value.slice out_5'.p out_5'.l out_5'.c), (Value.int .i64 i_6')] w') (Pw.kS Kv) w = goalAt Tryz.prog z1j_E 32 (z1j_O Kv) 0 (N0 :: ρ) [(Value.int .i64 k_1), (Value.pointer (some p_2)), (Value.slice out_5p out_5l out_5c), (Value.int .i64 i_6)] w := by kernel_rfl
theorem z1j_q0 (Kv : VW) (ρ : Rho) (vs : List Value) (w : World) : labAt (z1j_O Kv) 0 ρ vs w = z1j_P0 Kv ρ vs w := by kernel_rfl
def z1j_I0 (k_10 : Int) (p_20 : Addr) (I : Sl -> Int -> World -> Prop) (vs : List Value) (w : World) : Prop :=
  match vs with
  | [.int .i64 k_1, .pointer (some p_2), .slice out_5p out_5l out_5c, .int .i64 i_6] => (k_1 = k_10 /\ p_2 = p_20 /\ True) /\ I ⟨out_5p, out_5l, out_5c⟩ i_6 w
  | _ => False
def z1j_M0 (μ : Sl -> Int -> World -> Nat) (vs : List Value) (w : World) : Nat :=
  match vs with
  | [.int .i64 _k_1, .pointer (some _p_2), .slice out_5p out_5l out_5c, .int .i64 i_6] => μ ⟨out_5p, out_5l, out_5c⟩ i_6 w
  | _ => 0
theorem z1j_h0 (Kv : VW) : holdsAt Tryz.prog z1j_E 32 (z1j_O Kv) 0 := holdsAt_loop (by kernel_rfl) (fun ρ vs w h => by
  rw [z1j_q0] at h
  unfold z1j_P0 at h
  split at h
  . rename_i ρt k_1 p_2 out_5p out_5l out_5c i_6
    obtain ⟨I, μ, h0, hr⟩ := h.out
    refine ⟨z1j_I0 k_1 p_2 I, z1j_M0 μ, ⟨⟨rfl, rfl, trivial⟩, h0⟩, fun vs w hI => ?_⟩
    unfold z1j_I0 at hI
    split at hI
    . obtain ⟨⟨h0, h1, _⟩, hI⟩ := hI
      cases h0; cases h1
      rw [← z1j_e0]
      exact hr _ _ _ hI
    . exact hI.elim
  . exact h.elim)
theorem z1j_n (Kv : VW) : obAt (z1j_O Kv) 1 = none := by kernel_rfl
theorem z1j_h (Kv : VW) : ∀ k, holdsAt Tryz.prog z1j_E 32 (z1j_O Kv) k := fun k => match k with
  | 0 => z1j_h0 Kv
  | _k + 1 => holdsAt_ge (z1j_n Kv) (Nat.le_add_left _ _)
theorem z1j_ok : Sound Tryz.prog 61 z1j_S := ⟨Tryz.call61, fun vs w Kv h => by
  unfold z1j_S at h
  split at h
  . have h := h.out
    rw [z1j_e] at h
    exact calls_sound (Γ := z1j_E) progMixed trivial Tryz.func61 (code := z1j_C) (by kernel_rfl) (z1j_A Kv) Kv (holds_all (z1j_h Kv)) (Nat.le_of_ble_eq_true (by kernel_rfl)) h
  . exact h.elim⟩
/-! Rf_best -/
structure z33_sh (p_0_0 p_0_1 p_0_2 : Sl) (p_0_3 p_0_4 : Int) (f_1 known_2 : Sl) (K : Pw.T4) (w : World) : Prop where
  out : Calls Tryz.prog 34 #[(Value.agg #[(Value.slice p_0_0.p p_0_0.l p_0_0.c), (Value.slice p_0_1.p p_0_1.l p_0_1.c), (Value.slice p_0_2.p p_0_2.l p_0_2.c), (Value.int .i64 p_0_3), (Value.int .i64 p_0_4)]), (Value.slice f_1.p f_1.l f_1.c), (Value.slice known_2.p known_2.l known_2.c)] w fun e w' => ∃ r0 : Sl, e = .returned (Value.slice r0.p r0.l r0.c) /\ K r0 w'
noncomputable def z33_S : Pw.Spec := fun vs w Kv =>
  match vs with
  | [.agg ⟨[.slice p_0_0p p_0_0l p_0_0c, .slice p_0_1p p_0_1l p_0_1c, .slice p_0_2p p_0_2l p_0_2c, .int .i64 p_0_3, .int .i64 p_0_4]⟩, .slice f_1p f_1l f_1c, .slice known_2p known_2l known_2c] => z33_sh ⟨p_0_0p, p_0_0l, p_0_0c⟩ ⟨p_0_1p, p_0_1l, p_0_1c⟩ ⟨p_0_2p, p_0_2l, p_0_2c⟩ p_0_3 p_0_4 ⟨f_1p, f_1l, f_1c⟩ ⟨known_2p, known_2l, known_2c⟩ (Pw.kS Kv) w
  | _ => False
theorem z33_okr : Sound Tryz.prog 34 z33_S := ⟨Tryz.call34, fun vs w Kv h => by
  unfold z33_S at h
  split at h
  . exact h.out.mono fun e w' he => by
      obtain ⟨_, he, hk⟩ := he
      exact ⟨_, he, hk⟩
  . exact h.elim⟩
def z33_b0 (f_1 known_2 : Sl) (p_3 : Addr) (l_8 : Sl) (i_9 : Int) (N0 : Sl -> Sl -> Addr -> Sl -> Int -> World -> Prop) (K : Pw.T4) (w : World) : Prop :=
  cnd (decide (i_9 < (l_8.l : Int)))
    (let w20 := w.drew
  ∃ S21 : World -> Prop, S21 w20 /\ ∃ x22 : Sl, (∀ w' : World, S21 w' -> w'.cell? p_3 = some (Value.slice x22.p x22.l x22.c)) /\ ∃ x23 : Sl, (∀ w' : World, S21 w' -> w'.cell? (p_3.add 1) = some (Value.slice x23.p x23.l x23.c)) /\ ∃ x24 : Sl, (∀ w' : World, S21 w' -> w'.cell? (p_3.add 2) = some (Value.slice x24.p x24.l x24.c)) /\ ∃ x25 : Int, (∀ w' : World, S21 w' -> w'.cell? (p_3.add 3) = some (Value.int .i64 x25)) /\ ∃ x26 : Int, (∀ w' : World, S21 w' -> w'.cell? (p_3.add 4) = some (Value.int .i64 x26)) /\ nz l_8.p fun a27 => (0 <= i_9 /\ i_9 < (l_8.l : Nat)) /\ ∃ x28 : Int, (∀ w' : World, S21 w' -> w'.cell? (a27.add (i_9.toNat * 1)) = some (Value.int .i64 x28)) /\ (let w29 := w20.alloc (Obj.cells #[] 3)
  S21 w29 /\ (apS 1 8 [(Value.int .i64 0)] 3 (Sl.mk (some (Addr.mk w20.heap.size 0 none)) 0 0) f_1 w29 fun s30 w31 => S21 w31 /\ let w32 := w31.alloc (Obj.cells #[(Value.int .i64 x28)] 3)
  S21 w32 /\ apS 1 8 [(Value.int .i64 0)] 3 s30 (Sl.mk (some (Addr.mk w31.heap.size 0 none)) 1 1) w32 fun s33 w34 => S21 w34 /\ z33_sh x22 x23 x24 x25 x26 s33 known_2 (fun r36 w35 => S21 w35 /\ inR .i64 (i_9 + (1 : Int)) /\ N0 f_1 r36 p_3 l_8 (i_9 + (1 : Int)) w35) w34)
    /\ (let w37 := w29.alloc (Obj.cells #[(Value.int .i64 x28)] 3)
  S21 w37 /\ apS 1 8 [(Value.int .i64 0)] 3 (Sl.mk (some (Addr.mk w20.heap.size 0 none)) 0 0) f_1 w37 fun s38 w39 => S21 w39 /\ apS 1 8 [(Value.int .i64 0)] 3 s38 (Sl.mk (some (Addr.mk w29.heap.size 0 none)) 1 1) w39 fun s40 w41 => S21 w41 /\ z33_sh x22 x23 x24 x25 x26 s40 known_2 (fun r43 w42 => S21 w42 /\ inR .i64 (i_9 + (1 : Int)) /\ N0 f_1 r43 p_3 l_8 (i_9 + (1 : Int)) w42) w41))
    /\ (let w44 := w20.alloc (Obj.cells #[(Value.int .i64 x28)] 3)
  S21 w44 /\ let w45 := w44.alloc (Obj.cells #[] 3)
  S21 w45 /\ apS 1 8 [(Value.int .i64 0)] 3 (Sl.mk (some (Addr.mk w44.heap.size 0 none)) 0 0) f_1 w45 fun s46 w47 => S21 w47 /\ apS 1 8 [(Value.int .i64 0)] 3 s46 (Sl.mk (some (Addr.mk w20.heap.size 0 none)) 1 1) w47 fun s48 w49 => S21 w49 /\ z33_sh x22 x23 x24 x25 x26 s48 known_2 (fun r51 w50 => S21 w50 /\ inR .i64 (i_9 + (1 : Int)) /\ N0 f_1 r51 p_3 l_8 (i_9 + (1 : Int)) w50) w49))
    (K known_2 w)
def z33_l0d (f_1 known_2 : Sl) (p_3 : Addr) (l_8 : Sl) (i_9 : Int) (K : Pw.T4) (w : World) : Prop :=
  ∃ (I : Sl -> Int -> World -> Prop) (μ : Sl -> Int -> World -> Nat), I known_2 i_9 w /\ ∀ (known_21 : Sl) (i_91 : Int) (w1 : World), I known_21 i_91 w1 ->
    z33_b0 f_1 known_21 p_3 l_8 i_91 (fun f_1' known_2' p_3' l_8' i_9' w' => ((f_1' = f_1 /\ p_3' = p_3 /\ l_8' = l_8 /\ True) /\ I known_2' i_9' w') /\ μ known_2' i_9' w' < μ known_21 i_91 w1) K w1
structure z33_l0 (f_1 known_2 : Sl) (p_3 : Addr) (l_8 : Sl) (i_9 : Int) (K : Pw.T4) (w : World) : Prop where
  out : z33_l0d f_1 known_2 p_3 l_8 i_9 K w
def z33_sd (p_0_0 p_0_1 p_0_2 : Sl) (p_0_3 p_0_4 : Int) (f_1 known_2 : Sl) (K : Pw.T4) (w : World) : Prop :=
  let w1 := w.alloc (Obj.cells #[(Value.slice p_0_0.p p_0_0.l p_0_0.c), (Value.slice p_0_1.p p_0_1.l p_0_1.c), (Value.slice p_0_2.p p_0_2.l p_0_2.c), (Value.int .i64 p_0_3), (Value.int .i64 p_0_4)] 27)
  ∃ x2 : Sl, w1.cell? (Addr.mk w.heap.size 0 none) = some (Value.slice x2.p x2.l x2.c) /\ cnd ((f_1.l : Int) == (x2.l : Int))
    (∃ x3 : Sl, w1.cell? (Addr.mk w.heap.size 0 none) = some (Value.slice x3.p x3.l x3.c) /\ ∃ x4 : Sl, w1.cell? (Addr.mk w.heap.size 1 none) = some (Value.slice x4.p x4.l x4.c) /\ ∃ x5 : Sl, w1.cell? (Addr.mk w.heap.size 2 none) = some (Value.slice x5.p x5.l x5.c) /\ ∃ x6 : Int, w1.cell? (Addr.mk w.heap.size 3 none) = some (Value.int .i64 x6) /\ ∃ x7 : Int, w1.cell? (Addr.mk w.heap.size 4 none) = some (Value.int .i64 x7) /\ z1u_sh x3 x4 x5 x6 x7 f_1 known_2 (fun r9 w8 => cnd r9
    (let w10 := w8.alloc (Obj.cells #[] 3)
  apS 1 8 [(Value.int .i64 0)] 3 (Sl.mk (some (Addr.mk w8.heap.size 0 none)) 0 0) f_1 w10 fun s11 w12 => K s11 w12)
    (K known_2 w8)) w1)
    (∃ x13 : Sl, w1.cell? (Addr.mk w.heap.size 0 none) = some (Value.slice x13.p x13.l x13.c) /\ ∃ x14 : Sl, w1.cell? (Addr.mk w.heap.size 1 none) = some (Value.slice x14.p x14.l x14.c) /\ ∃ x15 : Sl, w1.cell? (Addr.mk w.heap.size 2 none) = some (Value.slice x15.p x15.l x15.c) /\ ∃ x16 : Int, w1.cell? (Addr.mk w.heap.size 3 none) = some (Value.int .i64 x16) /\ ∃ x17 : Int, w1.cell? (Addr.mk w.heap.size 4 none) = some (Value.int .i64 x17) /\ z1j_sh x13 x14 x15 x16 x17 (f_1.l : Int) (fun r19 w18 => z33_l0 f_1 known_2 (Addr.mk w.heap.size 0 none) r19 (0 : Int) K w18) w1)
def z33_P0 (Kv : VW) (ρ : Rho) (vs : List Value) (w : World) : Prop :=
  match ρ, vs with
  | _, [.slice f_1p f_1l f_1c, .slice known_2p known_2l known_2c, .pointer (some p_3), .slice l_8p l_8l l_8c, .int .i64 i_9] => z33_l0 ⟨f_1p, f_1l, f_1c⟩ ⟨known_2p, known_2l, known_2c⟩ p_3 ⟨l_8p, l_8l, l_8c⟩ i_9 (Pw.kS Kv) w
  | _, _ => False
noncomputable def z33_E : Pw.Env := [(21, z1u_S), (34, z33_S), (61, z1j_S)]
noncomputable def z33_C : Code := (Tryz.f34.body).getD .skip
noncomputable def z33_A (Kv : VW) : Pw.A :=
  (A.seq (A.reg (Pw.rn 2 RA.done))
   (A.seq (A.seq (A.reg (Pw.rn 6 RA.done))
   (A.cond (A.seq (A.reg (Pw.rn 5 RA.done))
   (A.seq (A.seq (A.reg (RA.run RA.done))
   (A.cond (A.seq (A.reg (Pw.rn 4 RA.done))
   A.leaf)
   A.leaf))
   (A.seq (A.reg (Pw.rn 2 RA.done))
   A.leaf)))
   A.leaf))
   (A.seq (A.reg (Pw.rn 5 RA.done))
   (A.seq (A.seq (A.reg (RA.run RA.done))
   (A.blk (A.loop [1, 2, 3, 8, 9] (z33_P0 Kv) (A.seq (A.seq (A.reg (Pw.rn 4 RA.done))
   (A.cond A.leaf
   A.leaf))
   (A.seq (A.blk (A.drw (DA.pur 0 (DA.pur 2 (DA.pur 4 (DA.pur 5 (DA.pur 6 (DA.pur 7 (DA.pur 10 (DA.two 1 (DA.two 3 (DA.eff 8 (DA.eff 9 (DA.eff 11 (DA.pur 12 DA.done)))) 8 (DA.eff 3 (DA.eff 9 (DA.eff 11 (DA.pur 12 DA.done))))) 8 (DA.eff 1 (DA.eff 3 (DA.eff 9 (DA.eff 11 (DA.pur 12 DA.done)))))))))))))))
   (A.reg (Pw.rn 3 RA.done)))))))
   (A.seq (A.reg (Pw.rn 2 RA.done))
   A.leaf)))))
noncomputable def z33_O (Kv : VW) : List Ob := (obs Tryz.prog z33_E 48 (z33_A Kv) z33_C (fun _ => retQ Tryz.prog Tryz.f34.results Kv))
theorem z33_e (Kv : VW) (p_0_0p : Option Addr) (p_0_0l p_0_0c : Nat) (p_0_1p : Option Addr) (p_0_1l p_0_1c : Nat) (p_0_2p : Option Addr) (p_0_2l p_0_2c : Nat) (p_0_3 p_0_4 : Int) (f_1p : Option Addr) (f_1l f_1c : Nat) (known_2p : Option Addr) (known_2l known_2c : Nat) (w : World) : z33_sd ⟨p_0_0p, p_0_0l, p_0_0c⟩ ⟨p_0_1p, p_0_1l, p_0_1c⟩ ⟨p_0_2p, p_0_2l, p_0_2c⟩ p_0_3 p_0_4 ⟨f_1p, f_1l, f_1c⟩ ⟨known_2p, known_2l, known_2c⟩ (Pw.kS Kv) w = W Tryz.prog z33_E 48 (z33_A Kv) z33_C [] (retQ Tryz.prog Tryz.f34.results Kv) [] (startS [(Value.agg #[(Value.slice p_0_0p p_0_0l p_0_0c), (Value.slice p_0_1p p_0_1l p_0_1c), (Value.slice p_0_2p p_0_2l p_0_2c), (Value.int .i64 p_0_3), (Value.int .i64 p_0_4)]), (Value.slice f_1p f_1l f_1c), (Value.slice known_2p known_2l known_2c)]) w := by kernel_rfl
theorem z33_e0 (Kv : VW) (N0 : List Value -> World -> Prop) (ρ : Rho) (f_1p : Option Addr) (f_1l f_1c : Nat) (known_2p : Option Addr) (known_2l known_2c : Nat) (p_3 : Addr) (l_8p : Option Addr) (l_8l l_8c : Nat) (i_9 : Int) (w : World) : z33_b0 ⟨f_1p, f_1l, f_1c⟩ ⟨known_2p, known_2l, known_2c⟩ p_3 ⟨l_8p, l_8l, l_8c⟩ i_9 (fun f_1' known_2' p_3' l_8' i_9' w' => N0 [(Value.slice f_1'.p f_1'.l f_1'.c), (Value.slice known_2'.p known_2'.l known_2'.c), (Value.pointer (some p_3')), (Value.slice l_8'.p l_8'.l l_8'.c), (Value.int .i64 i_9')] w') (Pw.kS Kv) w = goalAt Tryz.prog z33_E 48 (z33_O Kv) 0 (N0 :: ρ) [(Value.slice f_1p f_1l f_1c), (Value.slice known_2p known_2l known_2c), (Value.pointer (some p_3)), (Value.slice l_8p l_8l l_8c), (Value.int .i64 i_9)] w := by kernel_rfl
theorem z33_q0 (Kv : VW) (ρ : Rho) (vs : List Value) (w : World) : labAt (z33_O Kv) 0 ρ vs w = z33_P0 Kv ρ vs w := by kernel_rfl
def z33_I0 (f_10 : Sl) (p_30 : Addr) (l_80 : Sl) (I : Sl -> Int -> World -> Prop) (vs : List Value) (w : World) : Prop :=
  match vs with
  | [.slice f_1p f_1l f_1c, .slice known_2p known_2l known_2c, .pointer (some p_3), .slice l_8p l_8l l_8c, .int .i64 i_9] => (⟨f_1p, f_1l, f_1c⟩ = f_10 /\ p_3 = p_30 /\ ⟨l_8p, l_8l, l_8c⟩ = l_80 /\ True) /\ I ⟨known_2p, known_2l, known_2c⟩ i_9 w
  | _ => False
def z33_M0 (μ : Sl -> Int -> World -> Nat) (vs : List Value) (w : World) : Nat :=
  match vs with
  | [.slice _f_1p _f_1l _f_1c, .slice known_2p known_2l known_2c, .pointer (some _p_3), .slice _l_8p _l_8l _l_8c, .int .i64 i_9] => μ ⟨known_2p, known_2l, known_2c⟩ i_9 w
  | _ => 0
theorem z33_h0 (Kv : VW) : holdsAt Tryz.prog z33_E 48 (z33_O Kv) 0 := holdsAt_loop (by kernel_rfl) (fun ρ vs w h => by
  rw [z33_q0] at h
  unfold z33_P0 at h
  split at h
  . rename_i ρt f_1p f_1l f_1c known_2p known_2l known_2c p_3 l_8p l_8l l_8c i_9
    obtain ⟨I, μ, h0, hr⟩ := h.out
    refine ⟨z33_I0 ⟨f_1p, f_1l, f_1c⟩ p_3 ⟨l_8p, l_8l, l_8c⟩ I, z33_M0 μ, ⟨⟨rfl, rfl, rfl, trivial⟩, h0⟩, fun vs w hI => ?_⟩
    unfold z33_I0 at hI
    split at hI
    . obtain ⟨⟨h0, h1, h2, _⟩, hI⟩ := hI
      cases h0; cases h1; cases h2
      rw [← z33_e0]
      exact hr _ _ _ hI
    . exact hI.elim
  . exact h.elim)
theorem z33_n (Kv : VW) : obAt (z33_O Kv) 1 = none := by kernel_rfl
theorem z33_h (Kv : VW) : ∀ k, holdsAt Tryz.prog z33_E 48 (z33_O Kv) k := fun k => match k with
  | 0 => z33_h0 Kv
  | _k + 1 => holdsAt_ge (z33_n Kv) (Nat.le_add_left _ _)
theorem z33_mk (p_0_0p : Option Addr) (p_0_0l p_0_0c : Nat) (p_0_1p : Option Addr) (p_0_1l p_0_1c : Nat) (p_0_2p : Option Addr) (p_0_2l p_0_2c : Nat) (p_0_3 p_0_4 : Int) (f_1p : Option Addr) (f_1l f_1c : Nat) (known_2p : Option Addr) (known_2l known_2c : Nat) {K : Sl -> World -> Prop} {w : World} (h : z33_sd ⟨p_0_0p, p_0_0l, p_0_0c⟩ ⟨p_0_1p, p_0_1l, p_0_1c⟩ ⟨p_0_2p, p_0_2l, p_0_2c⟩ p_0_3 p_0_4 ⟨f_1p, f_1l, f_1c⟩ ⟨known_2p, known_2l, known_2c⟩ K w) : z33_sh ⟨p_0_0p, p_0_0l, p_0_0c⟩ ⟨p_0_1p, p_0_1l, p_0_1c⟩ ⟨p_0_2p, p_0_2l, p_0_2c⟩ p_0_3 p_0_4 ⟨f_1p, f_1l, f_1c⟩ ⟨known_2p, known_2l, known_2c⟩ K w := by
  have e : (Pw.kS (fun v w' => ∃ r0 : Sl, v = (Value.slice r0.p r0.l r0.c) /\ K r0 w')) = K := by
    funext r0 w'
    unfold Pw.kS
    apply propext
    constructor
    . rintro ⟨r0', hv, hk⟩
      rcases r0 with ⟨r0_1, r0_2, r0_3⟩; rcases r0' with ⟨r0_4, r0_5, r0_6⟩; cases hv
      exact hk
    . intro hk
      exact ⟨_, rfl, hk⟩
  have h' : z33_sd ⟨p_0_0p, p_0_0l, p_0_0c⟩ ⟨p_0_1p, p_0_1l, p_0_1c⟩ ⟨p_0_2p, p_0_2l, p_0_2c⟩ p_0_3 p_0_4 ⟨f_1p, f_1l, f_1c⟩ ⟨known_2p, known_2l, known_2c⟩ (Pw.kS (fun v w' => ∃ r0 : Sl, v = (Value.slice r0.p r0.l r0.c) /\ K r0 w')) w := by rw [e]; exact h
  rw [z33_e (fun v w' => ∃ r0 : Sl, v = (Value.slice r0.p r0.l r0.c) /\ K r0 w')] at h'
  refine ⟨(calls_sound (Γ := z33_E) progMixed ⟨.inl z1u_ok, .inl z33_okr, .inl z1j_ok, trivial⟩ Tryz.func34 (code := z33_C) (by kernel_rfl) (z33_A (fun v w' => ∃ r0 : Sl, v = (Value.slice r0.p r0.l r0.c) /\ K r0 w')) (fun v w' => ∃ r0 : Sl, v = (Value.slice r0.p r0.l r0.c) /\ K r0 w') (holds_all (z33_h (fun v w' => ∃ r0 : Sl, v = (Value.slice r0.p r0.l r0.c) /\ K r0 w'))) (Nat.le_of_ble_eq_true (by kernel_rfl)) h').mono fun e w' he => ?_⟩
  obtain ⟨v, rfl, _, rfl, hk⟩ := he
  exact ⟨_, rfl, hk⟩
/-! Rf_Best -/
def z36_sd (p_0_0 p_0_1 p_0_2 : Sl) (p_0_3 p_0_4 : Int) (K : Pw.T4) (w : World) : Prop :=
  let w1 := w.alloc (Obj.cells #[(Value.slice p_0_0.p p_0_0.l p_0_0.c), (Value.slice p_0_1.p p_0_1.l p_0_1.c), (Value.slice p_0_2.p p_0_2.l p_0_2.c), (Value.int .i64 p_0_3), (Value.int .i64 p_0_4)] 27)
  ∃ x2 : Sl, w1.cell? (Addr.mk w.heap.size 0 none) = some (Value.slice x2.p x2.l x2.c) /\ ∃ x3 : Sl, w1.cell? (Addr.mk w.heap.size 1 none) = some (Value.slice x3.p x3.l x3.c) /\ ∃ x4 : Sl, w1.cell? (Addr.mk w.heap.size 2 none) = some (Value.slice x4.p x4.l x4.c) /\ ∃ x5 : Int, w1.cell? (Addr.mk w.heap.size 3 none) = some (Value.int .i64 x5) /\ ∃ x6 : Int, w1.cell? (Addr.mk w.heap.size 4 none) = some (Value.int .i64 x6) /\ z33_sh x2 x3 x4 x5 x6 (Sl.mk none 0 0) (Sl.mk none 0 0) (fun r8 w7 => K r8 w7) w1
structure z36_sh (p_0_0 p_0_1 p_0_2 : Sl) (p_0_3 p_0_4 : Int) (K : Pw.T4) (w : World) : Prop where
  out : z36_sd p_0_0 p_0_1 p_0_2 p_0_3 p_0_4 K w
noncomputable def z36_S : Pw.Spec := fun vs w Kv =>
  match vs with
  | [.agg ⟨[.slice p_0_0p p_0_0l p_0_0c, .slice p_0_1p p_0_1l p_0_1c, .slice p_0_2p p_0_2l p_0_2c, .int .i64 p_0_3, .int .i64 p_0_4]⟩] => z36_sh ⟨p_0_0p, p_0_0l, p_0_0c⟩ ⟨p_0_1p, p_0_1l, p_0_1c⟩ ⟨p_0_2p, p_0_2l, p_0_2c⟩ p_0_3 p_0_4 (Pw.kS Kv) w
  | _ => False
noncomputable def z36_E : Pw.Env := [(34, z33_S)]
noncomputable def z36_C : Code := (Tryz.f13.body).getD .skip
noncomputable def z36_A (_Kv : VW) : Pw.A :=
  (A.seq (A.reg (Pw.rn 2 RA.done))
   (A.seq (A.reg (Pw.rn 3 RA.done))
   A.leaf))
noncomputable def z36_O (Kv : VW) : List Ob := (obs Tryz.prog z36_E 5 (z36_A Kv) z36_C (fun _ => retQ Tryz.prog Tryz.f13.results Kv))
theorem z36_e (Kv : VW) (p_0_0p : Option Addr) (p_0_0l p_0_0c : Nat) (p_0_1p : Option Addr) (p_0_1l p_0_1c : Nat) (p_0_2p : Option Addr) (p_0_2l p_0_2c : Nat) (p_0_3 p_0_4 : Int) (w : World) : z36_sd ⟨p_0_0p, p_0_0l, p_0_0c⟩ ⟨p_0_1p, p_0_1l, p_0_1c⟩ ⟨p_0_2p, p_0_2l, p_0_2c⟩ p_0_3 p_0_4 (Pw.kS Kv) w = W Tryz.prog z36_E 5 (z36_A Kv) z36_C [] (retQ Tryz.prog Tryz.f13.results Kv) [] (startS [(Value.agg #[(Value.slice p_0_0p p_0_0l p_0_0c), (Value.slice p_0_1p p_0_1l p_0_1c), (Value.slice p_0_2p p_0_2l p_0_2c), (Value.int .i64 p_0_3), (Value.int .i64 p_0_4)])]) w := by kernel_rfl
theorem z36_n (Kv : VW) : obAt (z36_O Kv) 0 = none := by kernel_rfl
theorem z36_h (Kv : VW) : ∀ k, holdsAt Tryz.prog z36_E 5 (z36_O Kv) k := fun _ => holdsAt_ge (z36_n Kv) (Nat.zero_le _)
theorem z36_ok : Sound Tryz.prog 13 z36_S := ⟨Tryz.call13, fun vs w Kv h => by
  unfold z36_S at h
  split at h
  . have h := h.out
    rw [z36_e] at h
    exact calls_sound (Γ := z36_E) progMixed ⟨.inl z33_okr, trivial⟩ Tryz.func13 (code := z36_C) (by kernel_rfl) (z36_A Kv) Kv (holds_all (z36_h Kv)) (Nat.le_of_ble_eq_true (by kernel_rfl)) h
  . exact h.elim⟩
end Go.Proofs.YtmkjcheafdionaaGreat
