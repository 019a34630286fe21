/- The bodies' formulas, by program. -/
import Derived.Test.YtmkjcheafdionaaProg
import Derived.KernelRfl
import Derived.Test.YtmkjcheafdionaaPwX
import Derived.Test.YtmkjcheafdionaaCG0
import Derived.Test.YtmkjcheafdionaaCG1
import Derived.Test.YtmkjcheafdionaaCG2
import Derived.Test.YtmkjcheafdionaaCG3
import Derived.Test.YtmkjcheafdionaaCG4
set_option maxRecDepth 20000
namespace Go.Proofs.Ytmkjcheafdionaa
open Go Pw
/-! Rf_Ints -/
def Rf_Ints_b0 (a_0 b_1 : Sl) (i_5 : Int) (N0 : Sl -> Sl -> Int -> World -> Prop) (K : Bool -> World -> Prop) (w : World) : Prop :=
  cnd (decide (i_5 < (a_0.l : Int)))
    (let w1 := w.drew
  nz a_0.p fun a2 => (0 <= i_5 /\ i_5 < (a_0.l : Nat)) /\ ∃ x3 : Int, w1.cell? (a2.add (i_5.toNat * 1)) = some (Value.int .i64 x3) /\ nz b_1.p fun a4 => (0 <= i_5 /\ i_5 < (b_1.l : Nat)) /\ ∃ x5 : Int, w1.cell? (a4.add (i_5.toNat * 1)) = some (Value.int .i64 x5) /\ cnd (x3 != x5)
    (K false w1)
    (inR .i64 (i_5 + (1 : Int)) /\ N0 a_0 b_1 (i_5 + (1 : Int)) w1))
    (K true w)
def Rf_Ints_l0d (a_0 b_1 : Sl) (i_5 : Int) (K : Bool -> World -> Prop) (w : World) : Prop :=
  ∃ (I : Int -> World -> Prop) (μ : Int -> World -> Nat), I i_5 w /\ ∀ (i_51 : Int) (w1 : World), I i_51 w1 ->
    Rf_Ints_b0 a_0 b_1 i_51 (fun a_0' b_1' i_5' w' => ((a_0' = a_0 /\ b_1' = b_1 /\ True) /\ I i_5' w') /\ μ i_5' w' < μ i_51 w1) K w1
structure Rf_Ints_l0 (a_0 b_1 : Sl) (i_5 : Int) (K : Bool -> World -> Prop) (w : World) : Prop where
  out : Rf_Ints_l0d a_0 b_1 i_5 K w
def Rf_Ints_sd (a_0 b_1 : Sl) (K : Bool -> World -> Prop) (w : World) : Prop :=
  cnd ((a_0.l : Int) != (b_1.l : Int))
    (K false w)
    (Rf_Ints_l0 a_0 b_1 (0 : Int) K w)
structure Rf_Ints_sh (a_0 b_1 : Sl) (K : Bool -> World -> Prop) (w : World) : Prop where
  out : Rf_Ints_sd a_0 b_1 K w
def Rf_Ints_P0 (Kv : VW) (ρ : Rho) (vs : List Value) (w : World) : Prop :=
  match ρ, vs with
  | _, [.slice a_0p a_0l a_0c, .slice b_1p b_1l b_1c, .int .i64 i_5] => Rf_Ints_l0 ⟨a_0p, a_0l, a_0c⟩ ⟨b_1p, b_1l, b_1c⟩ i_5 (fun r0 w' => Kv (Value.bool r0) w') w
  | _, _ => False
noncomputable def Rf_Ints_S : Pw.Spec := fun vs w Kv =>
  match vs with
  | [.slice a_0p a_0l a_0c, .slice b_1p b_1l b_1c] => Rf_Ints_sh ⟨a_0p, a_0l, a_0c⟩ ⟨b_1p, b_1l, b_1c⟩ (fun r0 w' => Kv (Value.bool r0) w') w
  | _ => False
noncomputable def Rf_Ints_E : Pw.Env := []
noncomputable def Rf_Ints_C : Code := (Try.f33.body).getD .skip
noncomputable def Rf_Ints_A (Kv : VW) : Pw.A :=
  (A.seq (A.reg (RA.run RA.done))
   (A.seq (A.seq (A.reg (Pw.rn 5 RA.done))
   (A.cond (A.seq (A.reg (RA.run RA.done))
   A.leaf)
   A.leaf))
   (A.seq (A.seq (A.reg (RA.run RA.done))
   (A.blk (A.loop [0, 1, 5] (Rf_Ints_P0 Kv) (A.seq (A.seq (A.reg (Pw.rn 4 RA.done))
   (A.cond A.leaf
   A.leaf))
   (A.seq (A.blk (A.seq (A.drp (DA.pur 0 (DA.pur 1 (DA.pur 2 (DA.pur 3 (DA.pur 4 (DA.pur 5 (DA.pur 6 (DA.pur 7 (DA.pur 8 DA.done))))))))))
   (A.cond (A.seq (A.reg (RA.run RA.done))
   A.leaf)
   A.leaf)))
   (A.reg (Pw.rn 3 RA.done)))))))
   (A.seq (A.reg (RA.run RA.done))
   A.leaf))))
noncomputable def Rf_Ints_O (Kv : VW) : List Ob := (obs Try.prog Rf_Ints_E 26 (Rf_Ints_A Kv) Rf_Ints_C (fun _ => retQ Try.prog Try.f33.results Kv))
theorem Rf_Ints_e (Kv : VW) (a_0p : Option Addr) (a_0l a_0c : Nat) (b_1p : Option Addr) (b_1l b_1c : Nat) (w : World) : Rf_Ints_sd ⟨a_0p, a_0l, a_0c⟩ ⟨b_1p, b_1l, b_1c⟩ (fun r0 w' => Kv (Value.bool r0) w') w = W Try.prog Rf_Ints_E 26 (Rf_Ints_A Kv) Rf_Ints_C [] (retQ Try.prog Try.f33.results Kv) [] (startS [(Value.slice a_0p a_0l a_0c), (Value.slice b_1p b_1l b_1c)]) w := by kernel_rfl
theorem Rf_Ints_e0 (Kv : VW) (N0 : List Value -> World -> Prop) (ρ : Rho) (a_0p : Option Addr) (a_0l a_0c : Nat) (b_1p : Option Addr) (b_1l b_1c : Nat) (i_5 : Int) (w : World) : Rf_Ints_b0 ⟨a_0p, a_0l, a_0c⟩ ⟨b_1p, b_1l, b_1c⟩ i_5 (fun a_0' b_1' i_5' w' => N0 [(Value.slice a_0'.p a_0'.l a_0'.c), (Value.slice b_1'.p b_1'.l b_1'.c), (Value.int .i64 i_5')] w') (fun r0 w' => Kv (Value.bool r0) w') w = goalAt Try.prog Rf_Ints_E 26 (Rf_Ints_O Kv) 0 (N0 :: ρ) [(Value.slice a_0p a_0l a_0c), (Value.slice b_1p b_1l b_1c), (Value.int .i64 i_5)] w := by kernel_rfl
theorem Rf_Ints_q0 (Kv : VW) (ρ : Rho) (vs : List Value) (w : World) : labAt (Rf_Ints_O Kv) 0 ρ vs w = Rf_Ints_P0 Kv ρ vs w := by kernel_rfl
def Rf_Ints_I0 (a_00 b_10 : Sl) (I : Int -> World -> Prop) (vs : List Value) (w : World) : Prop :=
  match vs with
  | [.slice a_0p a_0l a_0c, .slice b_1p b_1l b_1c, .int .i64 i_5] => (⟨a_0p, a_0l, a_0c⟩ = a_00 /\ ⟨b_1p, b_1l, b_1c⟩ = b_10 /\ True) /\ I i_5 w
  | _ => False
def Rf_Ints_M0 (μ : Int -> World -> Nat) (vs : List Value) (w : World) : Nat :=
  match vs with
  | [.slice _a_0p _a_0l _a_0c, .slice _b_1p _b_1l _b_1c, .int .i64 i_5] => μ i_5 w
  | _ => 0
theorem Rf_Ints_h0 (Kv : VW) : holdsAt Try.prog Rf_Ints_E 26 (Rf_Ints_O Kv) 0 := holdsAt_loop (by kernel_rfl) (fun ρ vs w h => by
  rw [Rf_Ints_q0] at h
  unfold Rf_Ints_P0 at h
  split at h
  · rename_i ρt a_0p a_0l a_0c b_1p b_1l b_1c i_5
    obtain ⟨I, μ, h0, hr⟩ := h.out
    refine ⟨Rf_Ints_I0 ⟨a_0p, a_0l, a_0c⟩ ⟨b_1p, b_1l, b_1c⟩ I, Rf_Ints_M0 μ, ⟨⟨rfl, rfl, trivial⟩, h0⟩, fun vs w hI => ?_⟩
    unfold Rf_Ints_I0 at hI
    split at hI
    · obtain ⟨⟨h0, h1, _⟩, hI⟩ := hI
      cases h0; cases h1
      rw [← Rf_Ints_e0]
      exact hr _ _ hI
    · exact hI.elim
  · exact h.elim)
theorem Rf_Ints_n (Kv : VW) : obAt (Rf_Ints_O Kv) 1 = none := by kernel_rfl
theorem Rf_Ints_h (Kv : VW) : ∀ k, holdsAt Try.prog Rf_Ints_E 26 (Rf_Ints_O Kv) k := fun k => match k with
  | 0 => Rf_Ints_h0 Kv
  | _k + 1 => holdsAt_ge (Rf_Ints_n Kv) (Nat.le_add_left _ _)
theorem Rf_Ints_ok : Sound Try.prog 33 Rf_Ints_S := ⟨Try.call33, fun vs w Kv h => by
  unfold Rf_Ints_S at h
  split at h
  · have h := h.out
    rw [Rf_Ints_e] at h
    exact calls_sound (Γ := Rf_Ints_E) progMixed trivial Try.func33 (code := Rf_Ints_C) (by kernel_rfl) (Rf_Ints_A Kv) Kv (holds_all (Rf_Ints_h Kv)) (Nat.le_of_ble_eq_true (by kernel_rfl)) h
  · exact h.elim⟩
/-! Rf_numbers_next -/
def Rf_numbers_next_sd (m_0 : Option Addr) (n_1 : Int) (K : Int -> World -> Prop) (w : World) : Prop :=
  let w1 := w.drew
  nz m_0 fun a2 => ∃ x3 : Int, w1.cell? (a2.add 1) = some (Value.int .i64 x3) /\ nz m_0 fun a4 => ∃ x5 : Sl, w1.cell? a4 = some (Value.slice x5.p x5.l x5.c) /\ cnd (decide (x3 >= (x5.l : Int)))
    (K (0 : Int) w1)
    (nz m_0 fun a6 => ∃ x7 : Int, w1.cell? (a6.add 1) = some (Value.int .i64 x7) /\ inR .i64 (x7 + (1 : Int)) /\ nz m_0 fun a8 => wrOk w1 (a8.add 1) /\ 
  (let w9 := w1.setCell (a8.add 1) (Value.int .i64 (x7 + (1 : Int)))
  let w10 := w9.drew
  ∃ S11 : World -> Prop, S11 w10 /\ nz m_0 fun a12 => ∃ x13 : Sl, (∀ w' : World, S11 w' -> w'.cell? a12 = some (Value.slice x13.p x13.l x13.c)) /\ nz m_0 fun a14 => ∃ x15 : Int, (∀ w' : World, S11 w' -> w'.cell? (a14.add 1) = some (Value.int .i64 x15)) /\ inR .i64 (x15 - (1 : Int)) /\ nz x13.p fun a16 => (0 <= (x15 - (1 : Int)) /\ (x15 - (1 : Int)) < (x13.l : Nat)) /\ ∃ x17 : Int, (∀ w' : World, S11 w' -> w'.cell? (a16.add ((x15 - (1 : Int)).toNat * 1)) = some (Value.int .i64 x17)) /\ Rg_Mod_sh x17 n_1 (fun r19 w18 => S11 w18 /\ K r19 w18) w10))
structure Rf_numbers_next_sh (m_0 : Option Addr) (n_1 : Int) (K : Int -> World -> Prop) (w : World) : Prop where
  out : Rf_numbers_next_sd m_0 n_1 K w
noncomputable def Rf_numbers_next_S : Pw.Spec := fun vs w Kv =>
  match vs with
  | [.pointer m_0, .int .i64 n_1] => Rf_numbers_next_sh m_0 n_1 (fun r0 w' => Kv (Value.int .i64 r0) w') w
  | _ => False
noncomputable def Rf_numbers_next_E : Pw.Env := [(13, Rg_Mod_S)]
noncomputable def Rf_numbers_next_C : Code := (Try.f19.body).getD .skip
noncomputable def Rf_numbers_next_A (_Kv : VW) : Pw.A :=
  (A.seq (A.reg (RA.run RA.done))
   (A.seq (A.seq (A.drp (DA.pur 0 (DA.pur 1 (DA.pur 2 (DA.pur 3 (DA.pur 4 (DA.pur 5 (DA.pur 6 (DA.pur 7 (DA.pur 8 (DA.pur 9 DA.done)))))))))))
   (A.cond (A.seq (A.reg (RA.run RA.done))
   A.leaf)
   A.leaf))
   (A.seq (A.reg (Pw.rn 8 RA.done))
   (A.seq (A.drw (DA.pur 0 (DA.pur 1 (DA.pur 2 (DA.pur 3 (DA.pur 4 (DA.pur 5 (DA.pur 6 (DA.pur 7 (DA.pur 8 (DA.pur 9 (DA.pur 10 (DA.pur 11 (DA.eff 12 (DA.pur 13 DA.done)))))))))))))))
   A.leaf))))
noncomputable def Rf_numbers_next_O (Kv : VW) : List Ob := (obs Try.prog Rf_numbers_next_E 35 (Rf_numbers_next_A Kv) Rf_numbers_next_C (fun _ => retQ Try.prog Try.f19.results Kv))
theorem Rf_numbers_next_e (Kv : VW) (m_0 : Option Addr) (n_1 : Int) (w : World) : Rf_numbers_next_sd m_0 n_1 (fun r0 w' => Kv (Value.int .i64 r0) w') w = W Try.prog Rf_numbers_next_E 35 (Rf_numbers_next_A Kv) Rf_numbers_next_C [] (retQ Try.prog Try.f19.results Kv) [] (startS [(Value.pointer m_0), (Value.int .i64 n_1)]) w := by kernel_rfl
theorem Rf_numbers_next_n (Kv : VW) : obAt (Rf_numbers_next_O Kv) 0 = none := by kernel_rfl
theorem Rf_numbers_next_h (Kv : VW) : ∀ k, holdsAt Try.prog Rf_numbers_next_E 35 (Rf_numbers_next_O Kv) k := fun _ => holdsAt_ge (Rf_numbers_next_n Kv) (Nat.zero_le _)
theorem Rf_numbers_next_ok : Sound Try.prog 19 Rf_numbers_next_S := ⟨Try.call19, fun vs w Kv h => by
  unfold Rf_numbers_next_S at h
  split at h
  · have h := h.out
    rw [Rf_numbers_next_e] at h
    exact calls_sound (Γ := Rf_numbers_next_E) progMixed ⟨.inl Rg_Mod_ok, trivial⟩ Try.func19 (code := Rf_numbers_next_C) (by kernel_rfl) (Rf_numbers_next_A Kv) Kv (holds_all (Rf_numbers_next_h Kv)) (Nat.le_of_ble_eq_true (by kernel_rfl)) h
  · exact h.elim⟩
/-! Rf_Made -/
def Rf_Made_b3 (t_2 m_3 p_4 : Addr) (lots_5 deals_9 i_10 : Int) (d_11 : Addr) (set_12 k_13 : Int) (N3 : Addr -> Addr -> Addr -> Int -> Int -> Int -> Addr -> Int -> Int -> World -> Prop) (N2 : Addr -> Addr -> Addr -> Int -> Int -> Int -> World -> Prop) (_K : Sl -> Sl -> Sl -> Int -> Int -> World -> Prop) (w : World) : Prop :=
  cnd (decide (k_13 < lots_5))
    (0 <= k_13 /\ cnd ((IntKind.wrap .i64 (((BitVec.ofInt (IntKind.bits .i64) (Int.fdiv set_12 (2 ^ (min k_13.toNat (IntKind.bits .i64)))) &&& BitVec.ofInt (IntKind.bits .i64) (1 : Int))).toNat : Int)) == (1 : Int))
    (let w50 := w.drew
  ∃ S51 : World -> Prop, S51 w50 /\ ∃ x52 : Sl, (∀ w' : World, S51 w' -> w'.cell? (d_11.add 1) = some (Value.slice x52.p x52.l x52.c)) /\ ∃ x53 : Sl, (∀ w' : World, S51 w' -> w'.cell? p_4 = some (Value.slice x53.p x53.l x53.c)) /\ nz x53.p fun a54 => (0 <= k_13 /\ k_13 < (x53.l : Nat)) /\ ∃ x55 : Int, (∀ w' : World, S51 w' -> w'.cell? (a54.add (k_13.toNat * 1)) = some (Value.int .i64 x55)) /\ let w56 := w50.alloc (Obj.cells #[(Value.int .i64 x55)] 3)
  S51 w56 /\ apS 1 8 [(Value.int .i64 0)] 3 x52 (Sl.mk (some (Addr.mk w50.heap.size 0 none)) 1 1) w56 fun s57 w58 => S51 w58 /\ wrOk w58 (d_11.add 1) /\ 
  (let w59 := w58.setCell (d_11.add 1) (Value.slice s57.p s57.l s57.c)
  inR .i64 (k_13 + (1 : Int)) /\ N3 t_2 m_3 p_4 lots_5 deals_9 i_10 d_11 set_12 (k_13 + (1 : Int)) w59))
    (inR .i64 (k_13 + (1 : Int)) /\ N3 t_2 m_3 p_4 lots_5 deals_9 i_10 d_11 set_12 (k_13 + (1 : Int)) w))
    (∃ x60 : Sl, w.cell? (p_4.add 2) = some (Value.slice x60.p x60.l x60.c) /\ ∃ x61 : Int, w.cell? d_11 = some (Value.int .i64 x61) /\ ∃ x62 : Sl, w.cell? (d_11.add 1) = some (Value.slice x62.p x62.l x62.c) /\ ∃ x63 : Int, w.cell? (d_11.add 2) = some (Value.int .i64 x63) /\ let w64 := w.alloc (Obj.cells #[(Value.int .i64 x61), (Value.slice x62.p x62.l x62.c), (Value.int .i64 x63)] 58)
  apS 3 40 [(Value.int .i64 0), (Value.slice none 0 0), (Value.int .i64 0)] 58 x60 (Sl.mk (some (Addr.mk w.heap.size 0 none)) 1 1) w64 fun s65 w66 => wrOk w66 (p_4.add 2) /\ 
  (let w67 := w66.setCell (p_4.add 2) (Value.slice s65.p s65.l s65.c)
  inR .i64 (i_10 + (1 : Int)) /\ N2 t_2 m_3 p_4 lots_5 deals_9 (i_10 + (1 : Int)) w67))
def Rf_Made_l3d (t_2 m_3 p_4 : Addr) (lots_5 deals_9 i_10 : Int) (d_11 : Addr) (set_12 k_13 : Int) (N2 : Addr -> Addr -> Addr -> Int -> Int -> Int -> World -> Prop) (K : Sl -> Sl -> Sl -> Int -> Int -> World -> Prop) (w : World) : Prop :=
  ∃ (I : Int -> World -> Prop) (μ : Int -> World -> Nat), I k_13 w /\ ∀ (k_131 : Int) (w1 : World), I k_131 w1 ->
    Rf_Made_b3 t_2 m_3 p_4 lots_5 deals_9 i_10 d_11 set_12 k_131 (fun t_2' m_3' p_4' lots_5' deals_9' i_10' d_11' set_12' k_13' w' => ((t_2' = t_2 /\ m_3' = m_3 /\ p_4' = p_4 /\ lots_5' = lots_5 /\ deals_9' = deals_9 /\ i_10' = i_10 /\ d_11' = d_11 /\ set_12' = set_12 /\ True) /\ I k_13' w') /\ μ k_13' w' < μ k_131 w1) N2 K w1
structure Rf_Made_l3 (t_2 m_3 p_4 : Addr) (lots_5 deals_9 i_10 : Int) (d_11 : Addr) (set_12 k_13 : Int) (N2 : Addr -> Addr -> Addr -> Int -> Int -> Int -> World -> Prop) (K : Sl -> Sl -> Sl -> Int -> Int -> World -> Prop) (w : World) : Prop where
  out : Rf_Made_l3d t_2 m_3 p_4 lots_5 deals_9 i_10 d_11 set_12 k_13 N2 K w
def Rf_Made_b2 (t_2 m_3 p_4 : Addr) (lots_5 deals_9 i_10 : Int) (N2 : Addr -> Addr -> Addr -> Int -> Int -> Int -> World -> Prop) (K : Sl -> Sl -> Sl -> Int -> Int -> World -> Prop) (w : World) : Prop :=
  cnd (decide (i_10 < deals_9))
    (Rf_numbers_next_sh (some m_3) (4 : Int) (fun r43 w42 => inR .i64 ((1 : Int) + r43) /\ Rf_numbers_next_sh (some m_3) (6 : Int) (fun r45 w44 => let w46 := w44.alloc (Obj.cells #[(Value.int .i64 0), (Value.slice none 0 0), (Value.int .i64 0)] 58)
  stN w46 (Addr.mk w44.heap.size 0 none) [(Value.int .i64 ((1 : Int) + r43)), (Value.slice none 0 0), (Value.int .i64 r45)] fun w47 => 0 <= lots_5 /\ inR .i64 ((IntKind.wrap .i64 ((1 : Int) * 2 ^ (min lots_5.toNat (IntKind.bits .i64)))) - (1 : Int)) /\ Rf_numbers_next_sh (some m_3) ((IntKind.wrap .i64 ((1 : Int) * 2 ^ (min lots_5.toNat (IntKind.bits .i64)))) - (1 : Int)) (fun r49 w48 => inR .i64 ((1 : Int) + r49) /\ Rf_Made_l3 t_2 m_3 p_4 lots_5 deals_9 i_10 (Addr.mk w44.heap.size 0 none) ((1 : Int) + r49) (0 : Int) N2 K w48) w47) w42) w)
    (∃ x68 : Sl, w.cell? p_4 = some (Value.slice x68.p x68.l x68.c) /\ ∃ x69 : Sl, w.cell? (p_4.add 1) = some (Value.slice x69.p x69.l x69.c) /\ ∃ x70 : Sl, w.cell? (p_4.add 2) = some (Value.slice x70.p x70.l x70.c) /\ ∃ x71 : Int, w.cell? (p_4.add 3) = some (Value.int .i64 x71) /\ ∃ x72 : Int, w.cell? (p_4.add 4) = some (Value.int .i64 x72) /\ stN w t_2 [(Value.slice x68.p x68.l x68.c), (Value.slice x69.p x69.l x69.c), (Value.slice x70.p x70.l x70.c), (Value.int .i64 x71), (Value.int .i64 x72)] fun w73 => ∃ x74 : Sl, w73.cell? t_2 = some (Value.slice x74.p x74.l x74.c) /\ ∃ x75 : Sl, w73.cell? (t_2.add 1) = some (Value.slice x75.p x75.l x75.c) /\ ∃ x76 : Sl, w73.cell? (t_2.add 2) = some (Value.slice x76.p x76.l x76.c) /\ ∃ x77 : Int, w73.cell? (t_2.add 3) = some (Value.int .i64 x77) /\ ∃ x78 : Int, w73.cell? (t_2.add 4) = some (Value.int .i64 x78) /\ K x74 x75 x76 x77 x78 w73)
def Rf_Made_l2d (t_2 m_3 p_4 : Addr) (lots_5 deals_9 i_10 : Int) (K : Sl -> Sl -> Sl -> Int -> Int -> World -> Prop) (w : World) : Prop :=
  ∃ (I : Int -> World -> Prop) (μ : Int -> World -> Nat), I i_10 w /\ ∀ (i_101 : Int) (w1 : World), I i_101 w1 ->
    Rf_Made_b2 t_2 m_3 p_4 lots_5 deals_9 i_101 (fun t_2' m_3' p_4' lots_5' deals_9' i_10' w' => ((t_2' = t_2 /\ m_3' = m_3 /\ p_4' = p_4 /\ lots_5' = lots_5 /\ deals_9' = deals_9 /\ True) /\ I i_10' w') /\ μ i_10' w' < μ i_101 w1) K w1
structure Rf_Made_l2 (t_2 m_3 p_4 : Addr) (lots_5 deals_9 i_10 : Int) (K : Sl -> Sl -> Sl -> Int -> Int -> World -> Prop) (w : World) : Prop where
  out : Rf_Made_l2d t_2 m_3 p_4 lots_5 deals_9 i_10 K w
def Rf_Made_b1 (t_2 m_3 p_4 : Addr) (lots_5 choices_7 i_8 : Int) (N1 : Addr -> Addr -> Addr -> Int -> Int -> Int -> World -> Prop) (K : Sl -> Sl -> Sl -> Int -> Int -> World -> Prop) (w : World) : Prop :=
  cnd (decide (i_8 < choices_7))
    (let w22 := w.drew
  ∃ S23 : World -> Prop, S23 w22 /\ ∃ x24 : Sl, (∀ w' : World, S23 w' -> w'.cell? (p_4.add 1) = some (Value.slice x24.p x24.l x24.c)) /\ ∃ x25 : Sl, (∀ w' : World, S23 w' -> w'.cell? p_4 = some (Value.slice x25.p x25.l x25.c)) /\ Rf_numbers_next_sh (some m_3) lots_5 (fun r27 w26 => S23 w26 /\ nz x25.p fun a28 => (0 <= r27 /\ r27 < (x25.l : Nat)) /\ ∃ x29 : Int, (∀ w' : World, S23 w' -> w'.cell? (a28.add (r27.toNat * 1)) = some (Value.int .i64 x29)) /\ Rf_numbers_next_sh (some m_3) (4 : Int) (fun r31 w30 => S23 w30 /\ inR .i64 ((1 : Int) + r31) /\ Rf_numbers_next_sh (some m_3) (12 : Int) (fun r33 w32 => S23 w32 /\ Rf_numbers_next_sh (some m_3) (6 : Int) (fun r35 w34 => S23 w34 /\ let w36 := w34.alloc (Obj.cells #[(Value.int .i64 x29), (Value.int .i64 ((1 : Int) + r31)), (Value.int .i64 r33), (Value.int .i64 r35)] 56)
  S23 w36 /\ apS 4 32 [(Value.int .i64 0), (Value.int .i64 0), (Value.int .i64 0), (Value.int .i64 0)] 56 x24 (Sl.mk (some (Addr.mk w34.heap.size 0 none)) 1 1) w36 fun s37 w38 => S23 w38 /\ wrOk w38 (p_4.add 1) /\ 
  (let w39 := w38.setCell (p_4.add 1) (Value.slice s37.p s37.l s37.c)
  inR .i64 (i_8 + (1 : Int)) /\ N1 t_2 m_3 p_4 lots_5 choices_7 (i_8 + (1 : Int)) w39)) w32) w30) w26) w22)
    (Rf_numbers_next_sh (some m_3) (4 : Int) (fun r41 w40 => Rf_Made_l2 t_2 m_3 p_4 lots_5 r41 (0 : Int) K w40) w)
def Rf_Made_l1d (t_2 m_3 p_4 : Addr) (lots_5 choices_7 i_8 : Int) (K : Sl -> Sl -> Sl -> Int -> Int -> World -> Prop) (w : World) : Prop :=
  ∃ (I : Int -> World -> Prop) (μ : Int -> World -> Nat), I i_8 w /\ ∀ (i_81 : Int) (w1 : World), I i_81 w1 ->
    Rf_Made_b1 t_2 m_3 p_4 lots_5 choices_7 i_81 (fun t_2' m_3' p_4' lots_5' choices_7' i_8' w' => ((t_2' = t_2 /\ m_3' = m_3 /\ p_4' = p_4 /\ lots_5' = lots_5 /\ choices_7' = choices_7 /\ True) /\ I i_8' w') /\ μ i_8' w' < μ i_81 w1) K w1
structure Rf_Made_l1 (t_2 m_3 p_4 : Addr) (lots_5 choices_7 i_8 : Int) (K : Sl -> Sl -> Sl -> Int -> Int -> World -> Prop) (w : World) : Prop where
  out : Rf_Made_l1d t_2 m_3 p_4 lots_5 choices_7 i_8 K w
def Rf_Made_b0 (t_2 m_3 p_4 : Addr) (lots_5 i_6 : Int) (N0 : Addr -> Addr -> Addr -> Int -> Int -> World -> Prop) (K : Sl -> Sl -> Sl -> Int -> Int -> World -> Prop) (w : World) : Prop :=
  cnd (decide (i_6 < lots_5))
    (let w11 := w.drew
  ∃ S12 : World -> Prop, S12 w11 /\ ∃ x13 : Sl, (∀ w' : World, S12 w' -> w'.cell? p_4 = some (Value.slice x13.p x13.l x13.c)) /\ inR .i64 ((3 : Int) * i_6) /\ inR .i64 ((10 : Int) + ((3 : Int) * i_6)) /\ Rf_numbers_next_sh (some m_3) (2 : Int) (fun r15 w14 => S12 w14 /\ inR .i64 ((2 : Int) * r15) /\ inR .i64 (((10 : Int) + ((3 : Int) * i_6)) - ((2 : Int) * r15)) /\ let w16 := w14.alloc (Obj.cells #[(Value.int .i64 (((10 : Int) + ((3 : Int) * i_6)) - ((2 : Int) * r15)))] 3)
  S12 w16 /\ apS 1 8 [(Value.int .i64 0)] 3 x13 (Sl.mk (some (Addr.mk w14.heap.size 0 none)) 1 1) w16 fun s17 w18 => wrOk w18 p_4 /\ 
  (let w19 := w18.setCell p_4 (Value.slice s17.p s17.l s17.c)
  inR .i64 (i_6 + (1 : Int)) /\ N0 t_2 m_3 p_4 lots_5 (i_6 + (1 : Int)) w19)) w11)
    (Rf_numbers_next_sh (some m_3) (13 : Int) (fun r21 w20 => Rf_Made_l1 t_2 m_3 p_4 lots_5 r21 (0 : Int) K w20) w)
def Rf_Made_l0d (t_2 m_3 p_4 : Addr) (lots_5 i_6 : Int) (K : Sl -> Sl -> Sl -> Int -> Int -> World -> Prop) (w : World) : Prop :=
  ∃ (I : Int -> World -> Prop) (μ : Int -> World -> Nat), I i_6 w /\ ∀ (i_61 : Int) (w1 : World), I i_61 w1 ->
    Rf_Made_b0 t_2 m_3 p_4 lots_5 i_61 (fun t_2' m_3' p_4' lots_5' i_6' w' => ((t_2' = t_2 /\ m_3' = m_3 /\ p_4' = p_4 /\ lots_5' = lots_5 /\ True) /\ I i_6' w') /\ μ i_6' w' < μ i_61 w1) K w1
structure Rf_Made_l0 (t_2 m_3 p_4 : Addr) (lots_5 i_6 : Int) (K : Sl -> Sl -> Sl -> Int -> Int -> World -> Prop) (w : World) : Prop where
  out : Rf_Made_l0d t_2 m_3 p_4 lots_5 i_6 K w
def Rf_Made_sd (l_0 : Sl) (K : Sl -> Sl -> Sl -> Int -> Int -> World -> Prop) (w : World) : Prop :=
  let w1 := w.alloc (Obj.cells #[(Value.slice none 0 0), (Value.slice none 0 0), (Value.slice none 0 0), (Value.int .i64 0), (Value.int .i64 0)] 28)
  let w2 := w1.alloc (Obj.cells #[(Value.slice l_0.p l_0.l l_0.c), (Value.int .i64 0)] 53)
  Rf_numbers_next_sh (some (Addr.mk w1.heap.size 0 none)) (4 : Int) (fun r4 w3 => Rf_numbers_next_sh (some (Addr.mk w1.heap.size 0 none)) (30 : Int) (fun r6 w5 => let w7 := w5.alloc (Obj.cells #[(Value.slice none 0 0), (Value.slice none 0 0), (Value.slice none 0 0), (Value.int .i64 0), (Value.int .i64 0)] 28)
  stN w7 (Addr.mk w5.heap.size 0 none) [(Value.slice none 0 0), (Value.slice none 0 0), (Value.slice none 0 0), (Value.int .i64 r4), (Value.int .i64 r6)] fun w8 => Rf_numbers_next_sh (some (Addr.mk w1.heap.size 0 none)) (4 : Int) (fun r10 w9 => inR .i64 ((1 : Int) + r10) /\ Rf_Made_l0 (Addr.mk w.heap.size 0 none) (Addr.mk w1.heap.size 0 none) (Addr.mk w5.heap.size 0 none) ((1 : Int) + r10) (0 : Int) K w9) w8) w3) w2
structure Rf_Made_sh (l_0 : Sl) (K : Sl -> Sl -> Sl -> Int -> Int -> World -> Prop) (w : World) : Prop where
  out : Rf_Made_sd l_0 K w
def Rf_Made_P0 (Kv : VW) (ρ : Rho) (vs : List Value) (w : World) : Prop :=
  match ρ, vs with
  | _, [.pointer (some t_2), .pointer (some m_3), .pointer (some p_4), .int .i64 lots_5, .int .i64 i_6] => Rf_Made_l0 t_2 m_3 p_4 lots_5 i_6 (fun r0_0 r0_1 r0_2 r0_3 r0_4 w' => Kv (Value.agg #[(Value.slice r0_0.p r0_0.l r0_0.c), (Value.slice r0_1.p r0_1.l r0_1.c), (Value.slice r0_2.p r0_2.l r0_2.c), (Value.int .i64 r0_3), (Value.int .i64 r0_4)]) w') w
  | _, _ => False
def Rf_Made_P1 (Kv : VW) (ρ : Rho) (vs : List Value) (w : World) : Prop :=
  match ρ, vs with
  | _, [.pointer (some t_2), .pointer (some m_3), .pointer (some p_4), .int .i64 lots_5, .int .i64 choices_7, .int .i64 i_8] => Rf_Made_l1 t_2 m_3 p_4 lots_5 choices_7 i_8 (fun r0_0 r0_1 r0_2 r0_3 r0_4 w' => Kv (Value.agg #[(Value.slice r0_0.p r0_0.l r0_0.c), (Value.slice r0_1.p r0_1.l r0_1.c), (Value.slice r0_2.p r0_2.l r0_2.c), (Value.int .i64 r0_3), (Value.int .i64 r0_4)]) w') w
  | _, _ => False
def Rf_Made_P2 (Kv : VW) (ρ : Rho) (vs : List Value) (w : World) : Prop :=
  match ρ, vs with
  | _, [.pointer (some t_2), .pointer (some m_3), .pointer (some p_4), .int .i64 lots_5, .int .i64 deals_9, .int .i64 i_10] => Rf_Made_l2 t_2 m_3 p_4 lots_5 deals_9 i_10 (fun r0_0 r0_1 r0_2 r0_3 r0_4 w' => Kv (Value.agg #[(Value.slice r0_0.p r0_0.l r0_0.c), (Value.slice r0_1.p r0_1.l r0_1.c), (Value.slice r0_2.p r0_2.l r0_2.c), (Value.int .i64 r0_3), (Value.int .i64 r0_4)]) w') w
  | _, _ => False
def Rf_Made_P3 (Kv : VW) (ρ : Rho) (vs : List Value) (w : World) : Prop :=
  match ρ, vs with
  | N2 :: _, [.pointer (some t_2), .pointer (some m_3), .pointer (some p_4), .int .i64 lots_5, .int .i64 deals_9, .int .i64 i_10, .pointer (some d_11), .int .i64 set_12, .int .i64 k_13] => Rf_Made_l3 t_2 m_3 p_4 lots_5 deals_9 i_10 d_11 set_12 k_13 (fun t_2' m_3' p_4' lots_5' deals_9' i_10' w' => N2 [(Value.pointer (some t_2')), (Value.pointer (some m_3')), (Value.pointer (some p_4')), (Value.int .i64 lots_5'), (Value.int .i64 deals_9'), (Value.int .i64 i_10')] w') (fun r0_0 r0_1 r0_2 r0_3 r0_4 w' => Kv (Value.agg #[(Value.slice r0_0.p r0_0.l r0_0.c), (Value.slice r0_1.p r0_1.l r0_1.c), (Value.slice r0_2.p r0_2.l r0_2.c), (Value.int .i64 r0_3), (Value.int .i64 r0_4)]) w') w
  | _, _ => False
noncomputable def Rf_Made_S : Pw.Spec := fun vs w Kv =>
  match vs with
  | [.slice l_0p l_0l l_0c] => Rf_Made_sh ⟨l_0p, l_0l, l_0c⟩ (fun r0_0 r0_1 r0_2 r0_3 r0_4 w' => Kv (Value.agg #[(Value.slice r0_0.p r0_0.l r0_0.c), (Value.slice r0_1.p r0_1.l r0_1.c), (Value.slice r0_2.p r0_2.l r0_2.c), (Value.int .i64 r0_3), (Value.int .i64 r0_4)]) w') w
  | _ => False
noncomputable def Rf_Made_E : Pw.Env := [(19, Rf_numbers_next_S)]
noncomputable def Rf_Made_C : Code := (Try.f8.body).getD .skip
noncomputable def Rf_Made_A (Kv : VW) : Pw.A :=
  (A.seq (A.reg (RA.run RA.done))
   (A.seq (A.reg (Pw.rn 4 RA.done))
   (A.seq (A.reg (Pw.rn 7 RA.done))
   (A.seq (A.reg (Pw.rn 4 RA.done))
   (A.seq (A.seq (A.reg (RA.run RA.done))
   (A.blk (A.loop [2, 3, 4, 5, 6] (Rf_Made_P0 Kv) (A.seq (A.seq (A.reg (Pw.rn 3 RA.done))
   (A.cond A.leaf
   A.leaf))
   (A.seq (A.blk (A.drw (DA.pur 0 (DA.pur 1 (DA.pur 2 (DA.pur 3 (DA.pur 4 (DA.pur 5 (DA.eff 6 (DA.pur 7 (DA.pur 8 (DA.eff 9 (DA.eff 10 (DA.pur 11 (DA.eff 12 DA.done)))))))))))))))
   (A.reg (Pw.rn 3 RA.done)))))))
   (A.seq (A.reg (Pw.rn 3 RA.done))
   (A.seq (A.seq (A.reg (RA.run RA.done))
   (A.blk (A.loop [2, 3, 4, 5, 7, 8] (Rf_Made_P1 Kv) (A.seq (A.seq (A.reg (Pw.rn 3 RA.done))
   (A.cond A.leaf
   A.leaf))
   (A.seq (A.blk (A.drw (DA.pur 0 (DA.pur 1 (DA.pur 2 (DA.pur 3 (DA.pur 4 (DA.pur 5 (DA.pur 9 (DA.pur 12 (DA.pur 14 (DA.eff 6 (DA.pur 7 (DA.pur 8 (DA.eff 10 (DA.pur 11 (DA.eff 13 (DA.eff 15 (DA.pur 16 (DA.eff 17 (DA.eff 18 (DA.pur 19 (DA.eff 20 DA.done)))))))))))))))))))))))
   (A.reg (Pw.rn 3 RA.done)))))))
   (A.seq (A.reg (Pw.rn 3 RA.done))
   (A.seq (A.seq (A.reg (RA.run RA.done))
   (A.blk (A.loop [2, 3, 4, 5, 9, 10] (Rf_Made_P2 Kv) (A.seq (A.seq (A.reg (Pw.rn 3 RA.done))
   (A.cond A.leaf
   A.leaf))
   (A.seq (A.blk (A.seq (A.reg (Pw.rn 8 RA.done))
   (A.seq (A.reg (Pw.rn 7 RA.done))
   (A.seq (A.seq (A.reg (RA.run RA.done))
   (A.blk (A.loop [2, 3, 4, 5, 9, 10, 11, 12, 13] (Rf_Made_P3 Kv) (A.seq (A.seq (A.reg (Pw.rn 3 RA.done))
   (A.cond A.leaf
   A.leaf))
   (A.seq (A.blk (A.seq (A.reg (Pw.rn 5 RA.done))
   (A.cond (A.drw (DA.pur 0 (DA.pur 1 (DA.pur 2 (DA.pur 3 (DA.pur 4 (DA.pur 5 (DA.pur 6 (DA.eff 7 (DA.eff 8 (DA.pur 9 (DA.eff 10 DA.done))))))))))))
   A.leaf)))
   (A.reg (Pw.rn 3 RA.done)))))))
   (A.reg (Pw.rn 7 RA.done))))))
   (A.reg (Pw.rn 3 RA.done)))))))
   (A.seq (A.reg (Pw.rn 2 RA.done))
   A.leaf))))))))))
noncomputable def Rf_Made_O (Kv : VW) : List Ob := (obs Try.prog Rf_Made_E 115 (Rf_Made_A Kv) Rf_Made_C (fun _ => retQ Try.prog Try.f8.results Kv))
theorem Rf_Made_e (Kv : VW) (l_0p : Option Addr) (l_0l l_0c : Nat) (w : World) : Rf_Made_sd ⟨l_0p, l_0l, l_0c⟩ (fun r0_0 r0_1 r0_2 r0_3 r0_4 w' => Kv (Value.agg #[(Value.slice r0_0.p r0_0.l r0_0.c), (Value.slice r0_1.p r0_1.l r0_1.c), (Value.slice r0_2.p r0_2.l r0_2.c), (Value.int .i64 r0_3), (Value.int .i64 r0_4)]) w') w = W Try.prog Rf_Made_E 115 (Rf_Made_A Kv) Rf_Made_C [] (retQ Try.prog Try.f8.results Kv) [] (startS [(Value.slice l_0p l_0l l_0c)]) w := by kernel_rfl
theorem Rf_Made_e0 (Kv : VW) (N0 : List Value -> World -> Prop) (ρ : Rho) (t_2 m_3 p_4 : Addr) (lots_5 i_6 : Int) (w : World) : Rf_Made_b0 t_2 m_3 p_4 lots_5 i_6 (fun t_2' m_3' p_4' lots_5' i_6' w' => N0 [(Value.pointer (some t_2')), (Value.pointer (some m_3')), (Value.pointer (some p_4')), (Value.int .i64 lots_5'), (Value.int .i64 i_6')] w') (fun r0_0 r0_1 r0_2 r0_3 r0_4 w' => Kv (Value.agg #[(Value.slice r0_0.p r0_0.l r0_0.c), (Value.slice r0_1.p r0_1.l r0_1.c), (Value.slice r0_2.p r0_2.l r0_2.c), (Value.int .i64 r0_3), (Value.int .i64 r0_4)]) w') w = goalAt Try.prog Rf_Made_E 115 (Rf_Made_O Kv) 0 (N0 :: ρ) [(Value.pointer (some t_2)), (Value.pointer (some m_3)), (Value.pointer (some p_4)), (Value.int .i64 lots_5), (Value.int .i64 i_6)] w := by kernel_rfl
theorem Rf_Made_q0 (Kv : VW) (ρ : Rho) (vs : List Value) (w : World) : labAt (Rf_Made_O Kv) 0 ρ vs w = Rf_Made_P0 Kv ρ vs w := by kernel_rfl
def Rf_Made_I0 (t_20 m_30 p_40 : Addr) (lots_50 : Int) (I : Int -> World -> Prop) (vs : List Value) (w : World) : Prop :=
  match vs with
  | [.pointer (some t_2), .pointer (some m_3), .pointer (some p_4), .int .i64 lots_5, .int .i64 i_6] => (t_2 = t_20 /\ m_3 = m_30 /\ p_4 = p_40 /\ lots_5 = lots_50 /\ True) /\ I i_6 w
  | _ => False
def Rf_Made_M0 (μ : Int -> World -> Nat) (vs : List Value) (w : World) : Nat :=
  match vs with
  | [.pointer (some _t_2), .pointer (some _m_3), .pointer (some _p_4), .int .i64 _lots_5, .int .i64 i_6] => μ i_6 w
  | _ => 0
theorem Rf_Made_h0 (Kv : VW) : holdsAt Try.prog Rf_Made_E 115 (Rf_Made_O Kv) 0 := holdsAt_loop (by kernel_rfl) (fun ρ vs w h => by
  rw [Rf_Made_q0] at h
  unfold Rf_Made_P0 at h
  split at h
  · rename_i ρt t_2 m_3 p_4 lots_5 i_6
    obtain ⟨I, μ, h0, hr⟩ := h.out
    refine ⟨Rf_Made_I0 t_2 m_3 p_4 lots_5 I, Rf_Made_M0 μ, ⟨⟨rfl, rfl, rfl, rfl, trivial⟩, h0⟩, fun vs w hI => ?_⟩
    unfold Rf_Made_I0 at hI
    split at hI
    · obtain ⟨⟨h0, h1, h2, h3, _⟩, hI⟩ := hI
      cases h0; cases h1; cases h2; cases h3
      rw [← Rf_Made_e0]
      exact hr _ _ hI
    · exact hI.elim
  · exact h.elim)
theorem Rf_Made_e1 (Kv : VW) (N1 : List Value -> World -> Prop) (ρ : Rho) (t_2 m_3 p_4 : Addr) (lots_5 choices_7 i_8 : Int) (w : World) : Rf_Made_b1 t_2 m_3 p_4 lots_5 choices_7 i_8 (fun t_2' m_3' p_4' lots_5' choices_7' i_8' w' => N1 [(Value.pointer (some t_2')), (Value.pointer (some m_3')), (Value.pointer (some p_4')), (Value.int .i64 lots_5'), (Value.int .i64 choices_7'), (Value.int .i64 i_8')] w') (fun r0_0 r0_1 r0_2 r0_3 r0_4 w' => Kv (Value.agg #[(Value.slice r0_0.p r0_0.l r0_0.c), (Value.slice r0_1.p r0_1.l r0_1.c), (Value.slice r0_2.p r0_2.l r0_2.c), (Value.int .i64 r0_3), (Value.int .i64 r0_4)]) w') w = goalAt Try.prog Rf_Made_E 115 (Rf_Made_O Kv) 1 (N1 :: ρ) [(Value.pointer (some t_2)), (Value.pointer (some m_3)), (Value.pointer (some p_4)), (Value.int .i64 lots_5), (Value.int .i64 choices_7), (Value.int .i64 i_8)] w := by kernel_rfl
theorem Rf_Made_q1 (Kv : VW) (ρ : Rho) (vs : List Value) (w : World) : labAt (Rf_Made_O Kv) 1 ρ vs w = Rf_Made_P1 Kv ρ vs w := by kernel_rfl
def Rf_Made_I1 (t_20 m_30 p_40 : Addr) (lots_50 choices_70 : Int) (I : Int -> World -> Prop) (vs : List Value) (w : World) : Prop :=
  match vs with
  | [.pointer (some t_2), .pointer (some m_3), .pointer (some p_4), .int .i64 lots_5, .int .i64 choices_7, .int .i64 i_8] => (t_2 = t_20 /\ m_3 = m_30 /\ p_4 = p_40 /\ lots_5 = lots_50 /\ choices_7 = choices_70 /\ True) /\ I i_8 w
  | _ => False
def Rf_Made_M1 (μ : Int -> World -> Nat) (vs : List Value) (w : World) : Nat :=
  match vs with
  | [.pointer (some _t_2), .pointer (some _m_3), .pointer (some _p_4), .int .i64 _lots_5, .int .i64 _choices_7, .int .i64 i_8] => μ i_8 w
  | _ => 0
theorem Rf_Made_h1 (Kv : VW) : holdsAt Try.prog Rf_Made_E 115 (Rf_Made_O Kv) 1 := holdsAt_loop (by kernel_rfl) (fun ρ vs w h => by
  rw [Rf_Made_q1] at h
  unfold Rf_Made_P1 at h
  split at h
  · rename_i ρt t_2 m_3 p_4 lots_5 choices_7 i_8
    obtain ⟨I, μ, h0, hr⟩ := h.out
    refine ⟨Rf_Made_I1 t_2 m_3 p_4 lots_5 choices_7 I, Rf_Made_M1 μ, ⟨⟨rfl, rfl, rfl, rfl, rfl, trivial⟩, h0⟩, fun vs w hI => ?_⟩
    unfold Rf_Made_I1 at hI
    split at hI
    · obtain ⟨⟨h0, h1, h2, h3, h4, _⟩, hI⟩ := hI
      cases h0; cases h1; cases h2; cases h3; cases h4
      rw [← Rf_Made_e1]
      exact hr _ _ hI
    · exact hI.elim
  · exact h.elim)
theorem Rf_Made_e2 (Kv : VW) (N2 : List Value -> World -> Prop) (ρ : Rho) (t_2 m_3 p_4 : Addr) (lots_5 deals_9 i_10 : Int) (w : World) : Rf_Made_b2 t_2 m_3 p_4 lots_5 deals_9 i_10 (fun t_2' m_3' p_4' lots_5' deals_9' i_10' w' => N2 [(Value.pointer (some t_2')), (Value.pointer (some m_3')), (Value.pointer (some p_4')), (Value.int .i64 lots_5'), (Value.int .i64 deals_9'), (Value.int .i64 i_10')] w') (fun r0_0 r0_1 r0_2 r0_3 r0_4 w' => Kv (Value.agg #[(Value.slice r0_0.p r0_0.l r0_0.c), (Value.slice r0_1.p r0_1.l r0_1.c), (Value.slice r0_2.p r0_2.l r0_2.c), (Value.int .i64 r0_3), (Value.int .i64 r0_4)]) w') w = goalAt Try.prog Rf_Made_E 115 (Rf_Made_O Kv) 2 (N2 :: ρ) [(Value.pointer (some t_2)), (Value.pointer (some m_3)), (Value.pointer (some p_4)), (Value.int .i64 lots_5), (Value.int .i64 deals_9), (Value.int .i64 i_10)] w := by kernel_rfl
theorem Rf_Made_q2 (Kv : VW) (ρ : Rho) (vs : List Value) (w : World) : labAt (Rf_Made_O Kv) 2 ρ vs w = Rf_Made_P2 Kv ρ vs w := by kernel_rfl
def Rf_Made_I2 (t_20 m_30 p_40 : Addr) (lots_50 deals_90 : Int) (I : Int -> World -> Prop) (vs : List Value) (w : World) : Prop :=
  match vs with
  | [.pointer (some t_2), .pointer (some m_3), .pointer (some p_4), .int .i64 lots_5, .int .i64 deals_9, .int .i64 i_10] => (t_2 = t_20 /\ m_3 = m_30 /\ p_4 = p_40 /\ lots_5 = lots_50 /\ deals_9 = deals_90 /\ True) /\ I i_10 w
  | _ => False
def Rf_Made_M2 (μ : Int -> World -> Nat) (vs : List Value) (w : World) : Nat :=
  match vs with
  | [.pointer (some _t_2), .pointer (some _m_3), .pointer (some _p_4), .int .i64 _lots_5, .int .i64 _deals_9, .int .i64 i_10] => μ i_10 w
  | _ => 0
theorem Rf_Made_h2 (Kv : VW) : holdsAt Try.prog Rf_Made_E 115 (Rf_Made_O Kv) 2 := holdsAt_loop (by kernel_rfl) (fun ρ vs w h => by
  rw [Rf_Made_q2] at h
  unfold Rf_Made_P2 at h
  split at h
  · rename_i ρt t_2 m_3 p_4 lots_5 deals_9 i_10
    obtain ⟨I, μ, h0, hr⟩ := h.out
    refine ⟨Rf_Made_I2 t_2 m_3 p_4 lots_5 deals_9 I, Rf_Made_M2 μ, ⟨⟨rfl, rfl, rfl, rfl, rfl, trivial⟩, h0⟩, fun vs w hI => ?_⟩
    unfold Rf_Made_I2 at hI
    split at hI
    · obtain ⟨⟨h0, h1, h2, h3, h4, _⟩, hI⟩ := hI
      cases h0; cases h1; cases h2; cases h3; cases h4
      rw [← Rf_Made_e2]
      exact hr _ _ hI
    · exact hI.elim
  · exact h.elim)
theorem Rf_Made_e3 (Kv : VW) (N3 N2 : List Value -> World -> Prop) (ρ : Rho) (t_2 m_3 p_4 : Addr) (lots_5 deals_9 i_10 : Int) (d_11 : Addr) (set_12 k_13 : Int) (w : World) : Rf_Made_b3 t_2 m_3 p_4 lots_5 deals_9 i_10 d_11 set_12 k_13 (fun t_2' m_3' p_4' lots_5' deals_9' i_10' d_11' set_12' k_13' w' => N3 [(Value.pointer (some t_2')), (Value.pointer (some m_3')), (Value.pointer (some p_4')), (Value.int .i64 lots_5'), (Value.int .i64 deals_9'), (Value.int .i64 i_10'), (Value.pointer (some d_11')), (Value.int .i64 set_12'), (Value.int .i64 k_13')] w') (fun t_2' m_3' p_4' lots_5' deals_9' i_10' w' => N2 [(Value.pointer (some t_2')), (Value.pointer (some m_3')), (Value.pointer (some p_4')), (Value.int .i64 lots_5'), (Value.int .i64 deals_9'), (Value.int .i64 i_10')] w') (fun r0_0 r0_1 r0_2 r0_3 r0_4 w' => Kv (Value.agg #[(Value.slice r0_0.p r0_0.l r0_0.c), (Value.slice r0_1.p r0_1.l r0_1.c), (Value.slice r0_2.p r0_2.l r0_2.c), (Value.int .i64 r0_3), (Value.int .i64 r0_4)]) w') w = goalAt Try.prog Rf_Made_E 115 (Rf_Made_O Kv) 3 (N3 :: N2 :: ρ) [(Value.pointer (some t_2)), (Value.pointer (some m_3)), (Value.pointer (some p_4)), (Value.int .i64 lots_5), (Value.int .i64 deals_9), (Value.int .i64 i_10), (Value.pointer (some d_11)), (Value.int .i64 set_12), (Value.int .i64 k_13)] w := by kernel_rfl
theorem Rf_Made_q3 (Kv : VW) (ρ : Rho) (vs : List Value) (w : World) : labAt (Rf_Made_O Kv) 3 ρ vs w = Rf_Made_P3 Kv ρ vs w := by kernel_rfl
def Rf_Made_I3 (t_20 m_30 p_40 : Addr) (lots_50 deals_90 i_100 : Int) (d_110 : Addr) (set_120 : Int) (I : Int -> World -> Prop) (vs : List Value) (w : World) : Prop :=
  match vs with
  | [.pointer (some t_2), .pointer (some m_3), .pointer (some p_4), .int .i64 lots_5, .int .i64 deals_9, .int .i64 i_10, .pointer (some d_11), .int .i64 set_12, .int .i64 k_13] => (t_2 = t_20 /\ m_3 = m_30 /\ p_4 = p_40 /\ lots_5 = lots_50 /\ deals_9 = deals_90 /\ i_10 = i_100 /\ d_11 = d_110 /\ set_12 = set_120 /\ True) /\ I k_13 w
  | _ => False
def Rf_Made_M3 (μ : Int -> World -> Nat) (vs : List Value) (w : World) : Nat :=
  match vs with
  | [.pointer (some _t_2), .pointer (some _m_3), .pointer (some _p_4), .int .i64 _lots_5, .int .i64 _deals_9, .int .i64 _i_10, .pointer (some _d_11), .int .i64 _set_12, .int .i64 k_13] => μ k_13 w
  | _ => 0
theorem Rf_Made_h3 (Kv : VW) : holdsAt Try.prog Rf_Made_E 115 (Rf_Made_O Kv) 3 := holdsAt_loop (by kernel_rfl) (fun ρ vs w h => by
  rw [Rf_Made_q3] at h
  unfold Rf_Made_P3 at h
  split at h
  · rename_i N2 ρt t_2 m_3 p_4 lots_5 deals_9 i_10 d_11 set_12 k_13
    obtain ⟨I, μ, h0, hr⟩ := h.out
    refine ⟨Rf_Made_I3 t_2 m_3 p_4 lots_5 deals_9 i_10 d_11 set_12 I, Rf_Made_M3 μ, ⟨⟨rfl, rfl, rfl, rfl, rfl, rfl, rfl, rfl, trivial⟩, h0⟩, fun vs w hI => ?_⟩
    unfold Rf_Made_I3 at hI
    split at hI
    · obtain ⟨⟨h0, h1, h2, h3, h4, h5, h6, h7, _⟩, hI⟩ := hI
      cases h0; cases h1; cases h2; cases h3; cases h4; cases h5; cases h6; cases h7
      rw [← Rf_Made_e3]
      exact hr _ _ hI
    · exact hI.elim
  · exact h.elim)
theorem Rf_Made_n (Kv : VW) : obAt (Rf_Made_O Kv) 4 = none := by kernel_rfl
theorem Rf_Made_h (Kv : VW) : ∀ k, holdsAt Try.prog Rf_Made_E 115 (Rf_Made_O Kv) k := fun k => match k with
  | 0 => Rf_Made_h0 Kv
  | 1 => Rf_Made_h1 Kv
  | 2 => Rf_Made_h2 Kv
  | 3 => Rf_Made_h3 Kv
  | _k + 4 => holdsAt_ge (Rf_Made_n Kv) (Nat.le_add_left _ _)
theorem Rf_Made_ok : Sound Try.prog 8 Rf_Made_S := ⟨Try.call8, fun vs w Kv h => by
  unfold Rf_Made_S at h
  split at h
  · have h := h.out
    rw [Rf_Made_e] at h
    exact calls_sound (Γ := Rf_Made_E) progMixed ⟨.inl Rf_numbers_next_ok, trivial⟩ Try.func8 (code := Rf_Made_C) (by kernel_rfl) (Rf_Made_A Kv) Kv (holds_all (Rf_Made_h Kv)) (Nat.le_of_ble_eq_true (by kernel_rfl)) h
  · exact h.elim⟩
/-! Rf_Prefixes -/
def Rf_Prefixes_b1 (p_1 : Addr) (out_3 now_4 : Int) (i_5 n_6 k_7 : Int) (N1 : Addr -> Int -> Int -> Int -> Int -> Int -> World -> Prop) (N0 : Addr -> Int -> Int -> Int -> World -> Prop) (_K : Int -> World -> Prop) (w : World) : Prop :=
  ∃ x3 : Sl, w.cell? (p_1.add 1) = some (Value.slice x3.p x3.l x3.c) /\ cnd (decide (k_7 < (x3.l : Int)))
    (let w4 := w.drew
  ∃ x5 : Sl, w4.cell? (p_1.add 1) = some (Value.slice x5.p x5.l x5.c) /\ nz x5.p fun a6 => (0 <= k_7 /\ k_7 < (x5.l : Nat)) /\ ∃ x7 : Int, w4.cell? (a6.add (k_7.toNat * 4)) = some (Value.int .i64 x7) /\ ∃ x8 : Sl, w4.cell? p_1 = some (Value.slice x8.p x8.l x8.c) /\ nz x8.p fun a9 => (0 <= i_5 /\ i_5 < (x8.l : Nat)) /\ ∃ x10 : Int, w4.cell? (a9.add (i_5.toNat * 1)) = some (Value.int .i64 x10) /\ cnd (x7 == x10)
    (inR .i64 (n_6 + (1 : Int)) /\ inR .i64 (k_7 + (1 : Int)) /\ N1 p_1 out_3 now_4 i_5 (n_6 + (1 : Int)) (k_7 + (1 : Int)) w4)
    (inR .i64 (k_7 + (1 : Int)) /\ N1 p_1 out_3 now_4 i_5 n_6 (k_7 + (1 : Int)) w4))
    (inR .i64 (now_4 * n_6) /\ inR .i64 (out_3 + (now_4 * n_6)) /\ inR .i64 (i_5 + (1 : Int)) /\ N0 p_1 (out_3 + (now_4 * n_6)) (now_4 * n_6) (i_5 + (1 : Int)) w)
def Rf_Prefixes_l1d (p_1 : Addr) (out_3 now_4 : Int) (i_5 n_6 k_7 : Int) (N0 : Addr -> Int -> Int -> Int -> World -> Prop) (K : Int -> World -> Prop) (w : World) : Prop :=
  ∃ (I : Int -> Int -> World -> Prop) (μ : Int -> Int -> World -> Nat), I n_6 k_7 w /\ ∀ (n_61 k_71 : Int) (w1 : World), I n_61 k_71 w1 ->
    Rf_Prefixes_b1 p_1 out_3 now_4 i_5 n_61 k_71 (fun p_1' out_3' now_4' i_5' n_6' k_7' w' => ((p_1' = p_1 /\ out_3' = out_3 /\ now_4' = now_4 /\ i_5' = i_5 /\ True) /\ I n_6' k_7' w') /\ μ n_6' k_7' w' < μ n_61 k_71 w1) N0 K w1
structure Rf_Prefixes_l1 (p_1 : Addr) (out_3 now_4 : Int) (i_5 n_6 k_7 : Int) (N0 : Addr -> Int -> Int -> Int -> World -> Prop) (K : Int -> World -> Prop) (w : World) : Prop where
  out : Rf_Prefixes_l1d p_1 out_3 now_4 i_5 n_6 k_7 N0 K w
def Rf_Prefixes_b0 (p_1 : Addr) (out_3 now_4 i_5 : Int) (N0 : Addr -> Int -> Int -> Int -> World -> Prop) (K : Int -> World -> Prop) (w : World) : Prop :=
  ∃ x2 : Sl, w.cell? p_1 = some (Value.slice x2.p x2.l x2.c) /\ cnd (decide (i_5 < (x2.l : Int)))
    (Rf_Prefixes_l1 p_1 out_3 now_4 i_5 (1 : Int) (0 : Int) N0 K w)
    (K out_3 w)
def Rf_Prefixes_l0d (p_1 : Addr) (out_3 now_4 i_5 : Int) (K : Int -> World -> Prop) (w : World) : Prop :=
  ∃ (I : Int -> Int -> Int -> World -> Prop) (μ : Int -> Int -> Int -> World -> Nat), I out_3 now_4 i_5 w /\ ∀ (out_31 now_41 i_51 : Int) (w1 : World), I out_31 now_41 i_51 w1 ->
    Rf_Prefixes_b0 p_1 out_31 now_41 i_51 (fun p_1' out_3' now_4' i_5' w' => ((p_1' = p_1 /\ True) /\ I out_3' now_4' i_5' w') /\ μ out_3' now_4' i_5' w' < μ out_31 now_41 i_51 w1) K w1
structure Rf_Prefixes_l0 (p_1 : Addr) (out_3 now_4 i_5 : Int) (K : Int -> World -> Prop) (w : World) : Prop where
  out : Rf_Prefixes_l0d p_1 out_3 now_4 i_5 K w
def Rf_Prefixes_sd (p_0_0 p_0_1 p_0_2 : Sl) (p_0_3 p_0_4 : Int) (K : Int -> World -> Prop) (w : World) : Prop :=
  let w1 := w.alloc (Obj.cells #[(Value.slice p_0_0.p p_0_0.l p_0_0.c), (Value.slice p_0_1.p p_0_1.l p_0_1.c), (Value.slice p_0_2.p p_0_2.l p_0_2.c), (Value.int .i64 p_0_3), (Value.int .i64 p_0_4)] 28)
  Rf_Prefixes_l0 (Addr.mk w.heap.size 0 none) (1 : Int) (1 : Int) (0 : Int) K w1
structure Rf_Prefixes_sh (p_0_0 p_0_1 p_0_2 : Sl) (p_0_3 p_0_4 : Int) (K : Int -> World -> Prop) (w : World) : Prop where
  out : Rf_Prefixes_sd p_0_0 p_0_1 p_0_2 p_0_3 p_0_4 K w
def Rf_Prefixes_P0 (Kv : VW) (ρ : Rho) (vs : List Value) (w : World) : Prop :=
  match ρ, vs with
  | _, [.pointer (some p_1), .int .i64 out_3, .int .i64 now_4, .int .i64 i_5] => Rf_Prefixes_l0 p_1 out_3 now_4 i_5 (fun r0 w' => Kv (Value.int .i64 r0) w') w
  | _, _ => False
def Rf_Prefixes_P1 (Kv : VW) (ρ : Rho) (vs : List Value) (w : World) : Prop :=
  match ρ, vs with
  | N0 :: _, [.pointer (some p_1), .int .i64 out_3, .int .i64 now_4, .int .i64 i_5, .int .i64 n_6, .int .i64 k_7] => Rf_Prefixes_l1 p_1 out_3 now_4 i_5 n_6 k_7 (fun p_1' out_3' now_4' i_5' w' => N0 [(Value.pointer (some p_1')), (Value.int .i64 out_3'), (Value.int .i64 now_4'), (Value.int .i64 i_5')] w') (fun r0 w' => Kv (Value.int .i64 r0) w') w
  | _, _ => False
noncomputable def Rf_Prefixes_S : Pw.Spec := fun vs w Kv =>
  match vs with
  | [.agg ⟨[.slice p_0_0p p_0_0l p_0_0c, .slice p_0_1p p_0_1l p_0_1c, .slice p_0_2p p_0_2l p_0_2c, .int .i64 p_0_3, .int .i64 p_0_4]⟩] => Rf_Prefixes_sh ⟨p_0_0p, p_0_0l, p_0_0c⟩ ⟨p_0_1p, p_0_1l, p_0_1c⟩ ⟨p_0_2p, p_0_2l, p_0_2c⟩ p_0_3 p_0_4 (fun r0 w' => Kv (Value.int .i64 r0) w') w
  | _ => False
noncomputable def Rf_Prefixes_E : Pw.Env := []
noncomputable def Rf_Prefixes_C : Code := (Try.f9.body).getD .skip
noncomputable def Rf_Prefixes_A (Kv : VW) : Pw.A :=
  (A.seq (A.reg (Pw.rn 2 RA.done))
   (A.seq (A.reg (RA.run RA.done))
   (A.seq (A.reg (RA.run RA.done))
   (A.seq (A.seq (A.reg (RA.run RA.done))
   (A.blk (A.loop [1, 3, 4, 5] (Rf_Prefixes_P0 Kv) (A.seq (A.seq (A.reg (Pw.rn 5 RA.done))
   (A.cond A.leaf
   A.leaf))
   (A.seq (A.blk (A.seq (A.reg (RA.run RA.done))
   (A.seq (A.seq (A.reg (RA.run RA.done))
   (A.blk (A.loop [1, 3, 4, 5, 6, 7] (Rf_Prefixes_P1 Kv) (A.seq (A.seq (A.reg (Pw.rn 5 RA.done))
   (A.cond A.leaf
   A.leaf))
   (A.seq (A.blk (A.seq (A.drp (DA.pur 0 (DA.pur 1 (DA.pur 2 (DA.pur 3 (DA.pur 4 (DA.pur 5 (DA.pur 6 (DA.pur 7 (DA.pur 8 (DA.pur 9 (DA.pur 10 (DA.pur 11 DA.done)))))))))))))
   (A.cond (A.reg (Pw.rn 3 RA.done))
   A.leaf)))
   (A.reg (Pw.rn 3 RA.done)))))))
   (A.seq (A.reg (Pw.rn 4 RA.done))
   (A.reg (Pw.rn 4 RA.done))))))
   (A.reg (Pw.rn 3 RA.done)))))))
   (A.seq (A.reg (Pw.rn 2 RA.done))
   A.leaf)))))
noncomputable def Rf_Prefixes_O (Kv : VW) : List Ob := (obs Try.prog Rf_Prefixes_E 43 (Rf_Prefixes_A Kv) Rf_Prefixes_C (fun _ => retQ Try.prog Try.f9.results Kv))
theorem Rf_Prefixes_e (Kv : VW) (p_0_0p : Option Addr) (p_0_0l p_0_0c : Nat) (p_0_1p : Option Addr) (p_0_1l p_0_1c : Nat) (p_0_2p : Option Addr) (p_0_2l p_0_2c : Nat) (p_0_3 p_0_4 : Int) (w : World) : Rf_Prefixes_sd ⟨p_0_0p, p_0_0l, p_0_0c⟩ ⟨p_0_1p, p_0_1l, p_0_1c⟩ ⟨p_0_2p, p_0_2l, p_0_2c⟩ p_0_3 p_0_4 (fun r0 w' => Kv (Value.int .i64 r0) w') w = W Try.prog Rf_Prefixes_E 43 (Rf_Prefixes_A Kv) Rf_Prefixes_C [] (retQ Try.prog Try.f9.results Kv) [] (startS [(Value.agg #[(Value.slice p_0_0p p_0_0l p_0_0c), (Value.slice p_0_1p p_0_1l p_0_1c), (Value.slice p_0_2p p_0_2l p_0_2c), (Value.int .i64 p_0_3), (Value.int .i64 p_0_4)])]) w := by kernel_rfl
theorem Rf_Prefixes_e0 (Kv : VW) (N0 : List Value -> World -> Prop) (ρ : Rho) (p_1 : Addr) (out_3 now_4 i_5 : Int) (w : World) : Rf_Prefixes_b0 p_1 out_3 now_4 i_5 (fun p_1' out_3' now_4' i_5' w' => N0 [(Value.pointer (some p_1')), (Value.int .i64 out_3'), (Value.int .i64 now_4'), (Value.int .i64 i_5')] w') (fun r0 w' => Kv (Value.int .i64 r0) w') w = goalAt Try.prog Rf_Prefixes_E 43 (Rf_Prefixes_O Kv) 0 (N0 :: ρ) [(Value.pointer (some p_1)), (Value.int .i64 out_3), (Value.int .i64 now_4), (Value.int .i64 i_5)] w := by kernel_rfl
theorem Rf_Prefixes_q0 (Kv : VW) (ρ : Rho) (vs : List Value) (w : World) : labAt (Rf_Prefixes_O Kv) 0 ρ vs w = Rf_Prefixes_P0 Kv ρ vs w := by kernel_rfl
def Rf_Prefixes_I0 (p_10 : Addr) (I : Int -> Int -> Int -> World -> Prop) (vs : List Value) (w : World) : Prop :=
  match vs with
  | [.pointer (some p_1), .int .i64 out_3, .int .i64 now_4, .int .i64 i_5] => (p_1 = p_10 /\ True) /\ I out_3 now_4 i_5 w
  | _ => False
def Rf_Prefixes_M0 (μ : Int -> Int -> Int -> World -> Nat) (vs : List Value) (w : World) : Nat :=
  match vs with
  | [.pointer (some _p_1), .int .i64 out_3, .int .i64 now_4, .int .i64 i_5] => μ out_3 now_4 i_5 w
  | _ => 0
theorem Rf_Prefixes_h0 (Kv : VW) : holdsAt Try.prog Rf_Prefixes_E 43 (Rf_Prefixes_O Kv) 0 := holdsAt_loop (by kernel_rfl) (fun ρ vs w h => by
  rw [Rf_Prefixes_q0] at h
  unfold Rf_Prefixes_P0 at h
  split at h
  · rename_i ρt p_1 out_3 now_4 i_5
    obtain ⟨I, μ, h0, hr⟩ := h.out
    refine ⟨Rf_Prefixes_I0 p_1 I, Rf_Prefixes_M0 μ, ⟨⟨rfl, trivial⟩, h0⟩, fun vs w hI => ?_⟩
    unfold Rf_Prefixes_I0 at hI
    split at hI
    · obtain ⟨⟨h0, _⟩, hI⟩ := hI
      cases h0
      rw [← Rf_Prefixes_e0]
      exact hr _ _ _ _ hI
    · exact hI.elim
  · exact h.elim)
theorem Rf_Prefixes_e1 (Kv : VW) (N1 N0 : List Value -> World -> Prop) (ρ : Rho) (p_1 : Addr) (out_3 now_4 : Int) (i_5 n_6 k_7 : Int) (w : World) : Rf_Prefixes_b1 p_1 out_3 now_4 i_5 n_6 k_7 (fun p_1' out_3' now_4' i_5' n_6' k_7' w' => N1 [(Value.pointer (some p_1')), (Value.int .i64 out_3'), (Value.int .i64 now_4'), (Value.int .i64 i_5'), (Value.int .i64 n_6'), (Value.int .i64 k_7')] w') (fun p_1' out_3' now_4' i_5' w' => N0 [(Value.pointer (some p_1')), (Value.int .i64 out_3'), (Value.int .i64 now_4'), (Value.int .i64 i_5')] w') (fun r0 w' => Kv (Value.int .i64 r0) w') w = goalAt Try.prog Rf_Prefixes_E 43 (Rf_Prefixes_O Kv) 1 (N1 :: N0 :: ρ) [(Value.pointer (some p_1)), (Value.int .i64 out_3), (Value.int .i64 now_4), (Value.int .i64 i_5), (Value.int .i64 n_6), (Value.int .i64 k_7)] w := by kernel_rfl
theorem Rf_Prefixes_q1 (Kv : VW) (ρ : Rho) (vs : List Value) (w : World) : labAt (Rf_Prefixes_O Kv) 1 ρ vs w = Rf_Prefixes_P1 Kv ρ vs w := by kernel_rfl
def Rf_Prefixes_I1 (p_10 : Addr) (out_30 now_40 i_50 : Int) (I : Int -> Int -> World -> Prop) (vs : List Value) (w : World) : Prop :=
  match vs with
  | [.pointer (some p_1), .int .i64 out_3, .int .i64 now_4, .int .i64 i_5, .int .i64 n_6, .int .i64 k_7] => (p_1 = p_10 /\ out_3 = out_30 /\ now_4 = now_40 /\ i_5 = i_50 /\ True) /\ I n_6 k_7 w
  | _ => False
def Rf_Prefixes_M1 (μ : Int -> Int -> World -> Nat) (vs : List Value) (w : World) : Nat :=
  match vs with
  | [.pointer (some _p_1), .int .i64 _out_3, .int .i64 _now_4, .int .i64 _i_5, .int .i64 n_6, .int .i64 k_7] => μ n_6 k_7 w
  | _ => 0
theorem Rf_Prefixes_h1 (Kv : VW) : holdsAt Try.prog Rf_Prefixes_E 43 (Rf_Prefixes_O Kv) 1 := holdsAt_loop (by kernel_rfl) (fun ρ vs w h => by
  rw [Rf_Prefixes_q1] at h
  unfold Rf_Prefixes_P1 at h
  split at h
  · rename_i N0 ρt p_1 out_3 now_4 i_5 n_6 k_7
    obtain ⟨I, μ, h0, hr⟩ := h.out
    refine ⟨Rf_Prefixes_I1 p_1 out_3 now_4 i_5 I, Rf_Prefixes_M1 μ, ⟨⟨rfl, rfl, rfl, rfl, trivial⟩, h0⟩, fun vs w hI => ?_⟩
    unfold Rf_Prefixes_I1 at hI
    split at hI
    · obtain ⟨⟨h0, h1, h2, h3, _⟩, hI⟩ := hI
      cases h0; cases h1; cases h2; cases h3
      rw [← Rf_Prefixes_e1]
      exact hr _ _ _ hI
    · exact hI.elim
  · exact h.elim)
theorem Rf_Prefixes_n (Kv : VW) : obAt (Rf_Prefixes_O Kv) 2 = none := by kernel_rfl
theorem Rf_Prefixes_h (Kv : VW) : ∀ k, holdsAt Try.prog Rf_Prefixes_E 43 (Rf_Prefixes_O Kv) k := fun k => match k with
  | 0 => Rf_Prefixes_h0 Kv
  | 1 => Rf_Prefixes_h1 Kv
  | _k + 2 => holdsAt_ge (Rf_Prefixes_n Kv) (Nat.le_add_left _ _)
theorem Rf_Prefixes_ok : Sound Try.prog 9 Rf_Prefixes_S := ⟨Try.call9, fun vs w Kv h => by
  unfold Rf_Prefixes_S at h
  split at h
  · have h := h.out
    rw [Rf_Prefixes_e] at h
    exact calls_sound (Γ := Rf_Prefixes_E) progMixed trivial Try.func9 (code := Rf_Prefixes_C) (by kernel_rfl) (Rf_Prefixes_A Kv) Kv (holds_all (Rf_Prefixes_h Kv)) (Nat.le_of_ble_eq_true (by kernel_rfl)) h
  · exact h.elim⟩
/-! Rf_Spoiled -/
def Rf_Spoiled_k1d (p_2 t_4 : Addr) (K : Sl -> Sl -> Sl -> Int -> Int -> World -> Prop) (w : World) : Prop :=
  ∃ x104 : Sl, w.cell? p_2 = some (Value.slice x104.p x104.l x104.c) /\ ∃ x105 : Sl, w.cell? (p_2.add 1) = some (Value.slice x105.p x105.l x105.c) /\ ∃ x106 : Sl, w.cell? (p_2.add 2) = some (Value.slice x106.p x106.l x106.c) /\ ∃ x107 : Int, w.cell? (p_2.add 3) = some (Value.int .i64 x107) /\ ∃ x108 : Int, w.cell? (p_2.add 4) = some (Value.int .i64 x108) /\ stN w t_4 [(Value.slice x104.p x104.l x104.c), (Value.slice x105.p x105.l x105.c), (Value.slice x106.p x106.l x106.c), (Value.int .i64 x107), (Value.int .i64 x108)] fun w109 => ∃ x110 : Sl, w109.cell? t_4 = some (Value.slice x110.p x110.l x110.c) /\ ∃ x111 : Sl, w109.cell? (t_4.add 1) = some (Value.slice x111.p x111.l x111.c) /\ ∃ x112 : Sl, w109.cell? (t_4.add 2) = some (Value.slice x112.p x112.l x112.c) /\ ∃ x113 : Int, w109.cell? (t_4.add 3) = some (Value.int .i64 x113) /\ ∃ x114 : Int, w109.cell? (t_4.add 4) = some (Value.int .i64 x114) /\ K x110 x111 x112 x113 x114 w109
structure Rf_Spoiled_k1 (p_2 t_4 : Addr) (K : Sl -> Sl -> Sl -> Int -> Int -> World -> Prop) (w : World) : Prop where
  out : Rf_Spoiled_k1d p_2 t_4 K w
def Rf_Spoiled_b0 (p_2 t_4 : Addr) (k_6 i_7 : Int) (N0 : Addr -> Addr -> Int -> Int -> World -> Prop) (K : Sl -> Sl -> Sl -> Int -> Int -> World -> Prop) (w : World) : Prop :=
  let w94 := w.drew
  ∃ S95 : World -> Prop, S95 w94 /\ ∃ x96 : Sl, (∀ w' : World, S95 w' -> w'.cell? p_2 = some (Value.slice x96.p x96.l x96.c)) /\ Rg_Mod_sh k_6 (3 : Int) (fun r98 w97 => S95 w97 /\ inR .i64 ((11 : Int) + r98) /\ inR .i64 (((11 : Int) + r98) - (x96.l : Int)) /\ inR .i64 ((((11 : Int) + r98) - (x96.l : Int)) + (1 : Int)) /\ cnd (decide (i_7 < ((((11 : Int) + r98) - (x96.l : Int)) + (1 : Int))))
    (∃ x99 : Sl, w97.cell? p_2 = some (Value.slice x99.p x99.l x99.c) /\ inR .i64 ((100 : Int) + i_7) /\ let w100 := w97.alloc (Obj.cells #[(Value.int .i64 ((100 : Int) + i_7))] 3)
  apS 1 8 [(Value.int .i64 0)] 3 x99 (Sl.mk (some (Addr.mk w97.heap.size 0 none)) 1 1) w100 fun s101 w102 => wrOk w102 p_2 /\ 
  (let w103 := w102.setCell p_2 (Value.slice s101.p s101.l s101.c)
  inR .i64 (i_7 + (1 : Int)) /\ N0 p_2 t_4 k_6 (i_7 + (1 : Int)) w103))
    (Rf_Spoiled_k1 p_2 t_4 K w97)) w94
def Rf_Spoiled_l0d (p_2 t_4 : Addr) (k_6 i_7 : Int) (K : Sl -> Sl -> Sl -> Int -> Int -> World -> Prop) (w : World) : Prop :=
  ∃ (I : Int -> World -> Prop) (μ : Int -> World -> Nat), I i_7 w /\ ∀ (i_71 : Int) (w1 : World), I i_71 w1 ->
    Rf_Spoiled_b0 p_2 t_4 k_6 i_71 (fun p_2' t_4' k_6' i_7' w' => ((p_2' = p_2 /\ t_4' = t_4 /\ k_6' = k_6 /\ True) /\ I i_7' w') /\ μ i_7' w' < μ i_71 w1) K w1
structure Rf_Spoiled_l0 (p_2 t_4 : Addr) (k_6 i_7 : Int) (K : Sl -> Sl -> Sl -> Int -> Int -> World -> Prop) (w : World) : Prop where
  out : Rf_Spoiled_l0d p_2 t_4 k_6 i_7 K w
def Rf_Spoiled_sd (p_0_0 p_0_1 p_0_2 : Sl) (p_0_3 p_0_4 : Int) (q_1_0 q_1_1 q_1_2 : Int) (K : Sl -> Sl -> Sl -> Int -> Int -> World -> Prop) (w : World) : Prop :=
  let w1 := w.alloc (Obj.cells #[(Value.slice p_0_0.p p_0_0.l p_0_0.c), (Value.slice p_0_1.p p_0_1.l p_0_1.c), (Value.slice p_0_2.p p_0_2.l p_0_2.c), (Value.int .i64 p_0_3), (Value.int .i64 p_0_4)] 28)
  let w2 := w1.alloc (Obj.cells #[(Value.int .i64 q_1_0), (Value.int .i64 q_1_1), (Value.int .i64 q_1_2)] 39)
  let w3 := w2.alloc (Obj.cells #[(Value.slice none 0 0), (Value.slice none 0 0), (Value.slice none 0 0), (Value.int .i64 0), (Value.int .i64 0)] 28)
  let w4 := w3.alloc (Obj.cells #[] 3)
  ∃ x5 : Sl, w4.cell? (Addr.mk w.heap.size 0 none) = some (Value.slice x5.p x5.l x5.c) /\ apS 1 8 [(Value.int .i64 0)] 3 (Sl.mk (some (Addr.mk w3.heap.size 0 none)) 0 0) x5 w4 fun s6 w7 => wrOk w7 (Addr.mk w.heap.size 0 none) /\ 
  (let w8 := w7.setCell (Addr.mk w.heap.size 0 none) (Value.slice s6.p s6.l s6.c)
  let w9 := w8.alloc (Obj.cells #[] 56)
  ∃ x10 : Sl, w9.cell? (Addr.mk w.heap.size 1 none) = some (Value.slice x10.p x10.l x10.c) /\ apS 4 32 [(Value.int .i64 0), (Value.int .i64 0), (Value.int .i64 0), (Value.int .i64 0)] 56 (Sl.mk (some (Addr.mk w8.heap.size 0 none)) 0 0) x10 w9 fun s11 w12 => wrOk w12 (Addr.mk w.heap.size 1 none) /\ 
  (let w13 := w12.setCell (Addr.mk w.heap.size 1 none) (Value.slice s11.p s11.l s11.c)
  let w14 := w13.alloc (Obj.cells #[] 58)
  ∃ x15 : Sl, w14.cell? (Addr.mk w.heap.size 2 none) = some (Value.slice x15.p x15.l x15.c) /\ apS 3 40 [(Value.int .i64 0), (Value.slice none 0 0), (Value.int .i64 0)] 58 (Sl.mk (some (Addr.mk w13.heap.size 0 none)) 0 0) x15 w14 fun s16 w17 => wrOk w17 (Addr.mk w.heap.size 2 none) /\ 
  (let w18 := w17.setCell (Addr.mk w.heap.size 2 none) (Value.slice s16.p s16.l s16.c)
  let w19 := w18.alloc (Obj.cells #[(Value.int .i64 (-1)), (Value.int .i64 0), (Value.int .i64 1), (Value.int .i64 1000000000), (Value.int .i64 1000000001), (Value.int .i64 1000001), (Value.int .i64 10)] 3)
  (0 <= (1 : Int) /\ (1 : Int) < (3 : Nat)) /\ ∃ x20 : Int, w19.cell? ((Addr.mk w1.heap.size 0 none).add ((1 : Int).toNat * 1)) = some (Value.int .i64 x20) /\ Rg_Mod_sh x20 (7 : Int) (fun r22 w21 => (0 <= r22 /\ r22 < (7 : Nat)) /\ ∃ x24 : Int, w21.cell? ((Addr.mk w18.heap.size 0 none).add (r22.toNat * 1)) = some (Value.int .i64 x24) /\ (0 <= (2 : Int) /\ (2 : Int) < (3 : Nat)) /\ ∃ x25 : Int, w21.cell? ((Addr.mk w1.heap.size 0 none).add ((2 : Int).toNat * 1)) = some (Value.int .i64 x25) /\ (0 <= (0 : Int) /\ (0 : Int) < (3 : Nat)) /\ ∃ x26 : Int, w21.cell? ((Addr.mk w1.heap.size 0 none).add ((0 : Int).toNat * 1)) = some (Value.int .i64 x26) /\ Rg_Mod_sh x26 (11 : Int) (fun r28 w27 => cnd (r28 == (0 : Int))
    (wrOk w27 (Addr.mk w.heap.size 4 none) /\ 
  (let w29 := w27.setCell (Addr.mk w.heap.size 4 none) (Value.int .i64 x24)
  Rf_Spoiled_k1 (Addr.mk w.heap.size 0 none) (Addr.mk w2.heap.size 0 none) K w29))
    (cnd (r28 == (1 : Int))
    (wrOk w27 (Addr.mk w.heap.size 3 none) /\ 
  (let w30 := w27.setCell (Addr.mk w.heap.size 3 none) (Value.int .i64 x24)
  Rf_Spoiled_k1 (Addr.mk w.heap.size 0 none) (Addr.mk w2.heap.size 0 none) K w30))
    (cnd (r28 == (2 : Int))
    (∃ x31 : Sl, w27.cell? (Addr.mk w.heap.size 0 none) = some (Value.slice x31.p x31.l x31.c) /\ let w32 := w27.alloc (Obj.cells #[(Value.int .i64 x24)] 3)
  apS 1 8 [(Value.int .i64 0)] 3 x31 (Sl.mk (some (Addr.mk w27.heap.size 0 none)) 1 1) w32 fun s33 w34 => wrOk w34 (Addr.mk w.heap.size 0 none) /\ 
  (let w35 := w34.setCell (Addr.mk w.heap.size 0 none) (Value.slice s33.p s33.l s33.c)
  Rf_Spoiled_k1 (Addr.mk w.heap.size 0 none) (Addr.mk w2.heap.size 0 none) K w35))
    (cnd (r28 == (3 : Int))
    (∃ x36 : Sl, w27.cell? (Addr.mk w.heap.size 1 none) = some (Value.slice x36.p x36.l x36.c) /\ let w37 := w27.alloc (Obj.cells #[(Value.int .i64 x24), (Value.int .i64 1), (Value.int .i64 0), (Value.int .i64 0)] 56)
  apS 4 32 [(Value.int .i64 0), (Value.int .i64 0), (Value.int .i64 0), (Value.int .i64 0)] 56 x36 (Sl.mk (some (Addr.mk w27.heap.size 0 none)) 1 1) w37 fun s38 w39 => wrOk w39 (Addr.mk w.heap.size 1 none) /\ 
  (let w40 := w39.setCell (Addr.mk w.heap.size 1 none) (Value.slice s38.p s38.l s38.c)
  Rf_Spoiled_k1 (Addr.mk w.heap.size 0 none) (Addr.mk w2.heap.size 0 none) K w40))
    (cnd (r28 == (4 : Int))
    (let w41 := w27.drew
  ∃ S42 : World -> Prop, S42 w41 /\ ∃ x43 : Sl, (∀ w' : World, S42 w' -> w'.cell? (Addr.mk w.heap.size 1 none) = some (Value.slice x43.p x43.l x43.c)) /\ ∃ x44 : Sl, (∀ w' : World, S42 w' -> w'.cell? (Addr.mk w.heap.size 0 none) = some (Value.slice x44.p x44.l x44.c)) /\ nz x44.p fun a45 => (0 <= (0 : Int) /\ (0 : Int) < (x44.l : Nat)) /\ ∃ x46 : Int, (∀ w' : World, S42 w' -> w'.cell? (a45.add ((0 : Int).toNat * 1)) = some (Value.int .i64 x46)) /\ let w47 := w41.alloc (Obj.cells #[(Value.int .i64 x46), (Value.int .i64 x24), (Value.int .i64 x24), (Value.int .i64 0)] 56)
  S42 w47 /\ apS 4 32 [(Value.int .i64 0), (Value.int .i64 0), (Value.int .i64 0), (Value.int .i64 0)] 56 x43 (Sl.mk (some (Addr.mk w41.heap.size 0 none)) 1 1) w47 fun s48 w49 => S42 w49 /\ wrOk w49 (Addr.mk w.heap.size 1 none) /\ 
  (let w50 := w49.setCell (Addr.mk w.heap.size 1 none) (Value.slice s48.p s48.l s48.c)
  Rf_Spoiled_k1 (Addr.mk w.heap.size 0 none) (Addr.mk w2.heap.size 0 none) K w50))
    (cnd (r28 == (5 : Int))
    (let w51 := w27.drew
  ∃ S52 : World -> Prop, S52 w51 /\ ∃ x53 : Sl, (∀ w' : World, S52 w' -> w'.cell? (Addr.mk w.heap.size 1 none) = some (Value.slice x53.p x53.l x53.c)) /\ ∃ x54 : Sl, (∀ w' : World, S52 w' -> w'.cell? (Addr.mk w.heap.size 0 none) = some (Value.slice x54.p x54.l x54.c)) /\ nz x54.p fun a55 => (0 <= (0 : Int) /\ (0 : Int) < (x54.l : Nat)) /\ ∃ x56 : Int, (∀ w' : World, S52 w' -> w'.cell? (a55.add ((0 : Int).toNat * 1)) = some (Value.int .i64 x56)) /\ let w57 := w51.alloc (Obj.cells #[(Value.int .i64 x56), (Value.int .i64 0), (Value.int .i64 0), (Value.int .i64 x24)] 56)
  S52 w57 /\ apS 4 32 [(Value.int .i64 0), (Value.int .i64 0), (Value.int .i64 0), (Value.int .i64 0)] 56 x53 (Sl.mk (some (Addr.mk w51.heap.size 0 none)) 1 1) w57 fun s58 w59 => S52 w59 /\ wrOk w59 (Addr.mk w.heap.size 1 none) /\ 
  (let w60 := w59.setCell (Addr.mk w.heap.size 1 none) (Value.slice s58.p s58.l s58.c)
  Rf_Spoiled_k1 (Addr.mk w.heap.size 0 none) (Addr.mk w2.heap.size 0 none) K w60))
    (cnd (r28 == (6 : Int))
    (let w61 := w27.drew
  ∃ S62 : World -> Prop, S62 w61 /\ ∃ x63 : Sl, (∀ w' : World, S62 w' -> w'.cell? (Addr.mk w.heap.size 2 none) = some (Value.slice x63.p x63.l x63.c)) /\ ∃ x64 : Sl, (∀ w' : World, S62 w' -> w'.cell? (Addr.mk w.heap.size 0 none) = some (Value.slice x64.p x64.l x64.c)) /\ nz x64.p fun a65 => (0 <= (0 : Int) /\ (0 : Int) < (x64.l : Nat)) /\ ∃ x66 : Int, (∀ w' : World, S62 w' -> w'.cell? (a65.add ((0 : Int).toNat * 1)) = some (Value.int .i64 x66)) /\ let w67 := w61.alloc (Obj.cells #[(Value.int .i64 x66), (Value.int .i64 x24)] 3)
  S62 w67 /\ let w68 := w67.alloc (Obj.cells #[(Value.int .i64 1), (Value.slice (some (Addr.mk w61.heap.size 0 none)) 2 2), (Value.int .i64 0)] 58)
  S62 w68 /\ apS 3 40 [(Value.int .i64 0), (Value.slice none 0 0), (Value.int .i64 0)] 58 x63 (Sl.mk (some (Addr.mk w67.heap.size 0 none)) 1 1) w68 fun s69 w70 => S62 w70 /\ wrOk w70 (Addr.mk w.heap.size 2 none) /\ 
  (let w71 := w70.setCell (Addr.mk w.heap.size 2 none) (Value.slice s69.p s69.l s69.c)
  Rf_Spoiled_k1 (Addr.mk w.heap.size 0 none) (Addr.mk w2.heap.size 0 none) K w71))
    (cnd (r28 == (7 : Int))
    (let w72 := w27.drew
  ∃ S73 : World -> Prop, S73 w72 /\ ∃ x74 : Sl, (∀ w' : World, S73 w' -> w'.cell? (Addr.mk w.heap.size 2 none) = some (Value.slice x74.p x74.l x74.c)) /\ ∃ x75 : Sl, (∀ w' : World, S73 w' -> w'.cell? (Addr.mk w.heap.size 0 none) = some (Value.slice x75.p x75.l x75.c)) /\ Rg_Mod_sh x25 (2 : Int) (fun r77 w76 => S73 w76 /\ (0 <= (0 : Int) /\ (0 : Int) <= r77 /\ r77 <= (x75.c : Nat)) /\ let w78 := w76.alloc (Obj.cells #[(Value.int .i64 1), (Value.slice (subP x75.p 0 x75.c 1) (r77.toNat - 0) (x75.c - 0)), (Value.int .i64 x24)] 58)
  S73 w78 /\ apS 3 40 [(Value.int .i64 0), (Value.slice none 0 0), (Value.int .i64 0)] 58 x74 (Sl.mk (some (Addr.mk w76.heap.size 0 none)) 1 1) w78 fun s79 w80 => S73 w80 /\ wrOk w80 (Addr.mk w.heap.size 2 none) /\ 
  (let w81 := w80.setCell (Addr.mk w.heap.size 2 none) (Value.slice s79.p s79.l s79.c)
  Rf_Spoiled_k1 (Addr.mk w.heap.size 0 none) (Addr.mk w2.heap.size 0 none) K w81)) w72)
    (cnd (r28 == (8 : Int))
    (let w82 := w27.drew
  ∃ S83 : World -> Prop, S83 w82 /\ ∃ x84 : Sl, (∀ w' : World, S83 w' -> w'.cell? (Addr.mk w.heap.size 2 none) = some (Value.slice x84.p x84.l x84.c)) /\ ∃ x85 : Sl, (∀ w' : World, S83 w' -> w'.cell? (Addr.mk w.heap.size 0 none) = some (Value.slice x85.p x85.l x85.c)) /\ nz x85.p fun a86 => (0 <= (0 : Int) /\ (0 : Int) < (x85.l : Nat)) /\ ∃ x87 : Int, (∀ w' : World, S83 w' -> w'.cell? (a86.add ((0 : Int).toNat * 1)) = some (Value.int .i64 x87)) /\ let w88 := w82.alloc (Obj.cells #[(Value.int .i64 x87)] 3)
  S83 w88 /\ let w89 := w88.alloc (Obj.cells #[(Value.int .i64 1), (Value.slice (some (Addr.mk w82.heap.size 0 none)) 1 1), (Value.int .i64 x24)] 58)
  S83 w89 /\ apS 3 40 [(Value.int .i64 0), (Value.slice none 0 0), (Value.int .i64 0)] 58 x84 (Sl.mk (some (Addr.mk w88.heap.size 0 none)) 1 1) w89 fun s90 w91 => S83 w91 /\ wrOk w91 (Addr.mk w.heap.size 2 none) /\ 
  (let w92 := w91.setCell (Addr.mk w.heap.size 2 none) (Value.slice s90.p s90.l s90.c)
  Rf_Spoiled_k1 (Addr.mk w.heap.size 0 none) (Addr.mk w2.heap.size 0 none) K w92))
    (cnd (r28 == (9 : Int))
    (wrOk w27 (Addr.mk w.heap.size 0 none) /\ 
  (let w93 := w27.setCell (Addr.mk w.heap.size 0 none) (Value.slice none 0 0)
  Rf_Spoiled_k1 (Addr.mk w.heap.size 0 none) (Addr.mk w2.heap.size 0 none) K w93))
    (cnd (r28 == (10 : Int))
    (Rf_Spoiled_l0 (Addr.mk w.heap.size 0 none) (Addr.mk w2.heap.size 0 none) x25 (0 : Int) K w27)
    (Rf_Spoiled_k1 (Addr.mk w.heap.size 0 none) (Addr.mk w2.heap.size 0 none) K w27)))))))))))) w21) w19)))
structure Rf_Spoiled_sh (p_0_0 p_0_1 p_0_2 : Sl) (p_0_3 p_0_4 : Int) (q_1_0 q_1_1 q_1_2 : Int) (K : Sl -> Sl -> Sl -> Int -> Int -> World -> Prop) (w : World) : Prop where
  out : Rf_Spoiled_sd p_0_0 p_0_1 p_0_2 p_0_3 p_0_4 q_1_0 q_1_1 q_1_2 K w
def Rf_Spoiled_P0 (Kv : VW) (ρ : Rho) (vs : List Value) (w : World) : Prop :=
  match ρ, vs with
  | _, [.pointer (some p_2), .pointer (some t_4), .int .i64 k_6, .int .i64 i_7] => Rf_Spoiled_l0 p_2 t_4 k_6 i_7 (fun r0_0 r0_1 r0_2 r0_3 r0_4 w' => Kv (Value.agg #[(Value.slice r0_0.p r0_0.l r0_0.c), (Value.slice r0_1.p r0_1.l r0_1.c), (Value.slice r0_2.p r0_2.l r0_2.c), (Value.int .i64 r0_3), (Value.int .i64 r0_4)]) w') w
  | _, _ => False
def Rf_Spoiled_P1 (Kv : VW) (ρ : Rho) (vs : List Value) (w : World) : Prop :=
  match ρ, vs with
  | _, [.pointer (some p_2), .pointer (some t_4)] => Rf_Spoiled_k1 p_2 t_4 (fun r0_0 r0_1 r0_2 r0_3 r0_4 w' => Kv (Value.agg #[(Value.slice r0_0.p r0_0.l r0_0.c), (Value.slice r0_1.p r0_1.l r0_1.c), (Value.slice r0_2.p r0_2.l r0_2.c), (Value.int .i64 r0_3), (Value.int .i64 r0_4)]) w') w
  | _, _ => False
noncomputable def Rf_Spoiled_S : Pw.Spec := fun vs w Kv =>
  match vs with
  | [.agg ⟨[.slice p_0_0p p_0_0l p_0_0c, .slice p_0_1p p_0_1l p_0_1c, .slice p_0_2p p_0_2l p_0_2c, .int .i64 p_0_3, .int .i64 p_0_4]⟩, .agg ⟨[.int .i64 q_1_0, .int .i64 q_1_1, .int .i64 q_1_2]⟩] => Rf_Spoiled_sh ⟨p_0_0p, p_0_0l, p_0_0c⟩ ⟨p_0_1p, p_0_1l, p_0_1c⟩ ⟨p_0_2p, p_0_2l, p_0_2c⟩ p_0_3 p_0_4 q_1_0 q_1_1 q_1_2 (fun r0_0 r0_1 r0_2 r0_3 r0_4 w' => Kv (Value.agg #[(Value.slice r0_0.p r0_0.l r0_0.c), (Value.slice r0_1.p r0_1.l r0_1.c), (Value.slice r0_2.p r0_2.l r0_2.c), (Value.int .i64 r0_3), (Value.int .i64 r0_4)]) w') w
  | _ => False
noncomputable def Rf_Spoiled_E : Pw.Env := [(13, Rg_Mod_S)]
noncomputable def Rf_Spoiled_C : Code := (Try.f11.body).getD .skip
noncomputable def Rf_Spoiled_A (Kv : VW) : Pw.A :=
  (A.seq (A.reg (Pw.rn 3 RA.done))
   (A.seq (A.reg (Pw.rn 6 RA.done))
   (A.seq (A.reg (Pw.rn 6 RA.done))
   (A.seq (A.reg (Pw.rn 6 RA.done))
   (A.seq (A.reg (Pw.rn 7 RA.done))
   (A.seq (A.reg (Pw.rn 3 RA.done))
   (A.seq (A.seq (A.reg (Pw.rn 3 RA.done))
   (A.blk (A.seq (A.reg (Pw.rn 2 RA.done))
   (A.cond (A.reg (Pw.rn 3 RA.done))
   (A.seq (A.reg (Pw.rn 2 RA.done))
   (A.cond (A.reg (Pw.rn 3 RA.done))
   (A.seq (A.reg (Pw.rn 2 RA.done))
   (A.cond (A.reg (Pw.rn 7 RA.done))
   (A.seq (A.reg (Pw.rn 2 RA.done))
   (A.cond (A.reg (Pw.rn 8 RA.done))
   (A.seq (A.reg (Pw.rn 2 RA.done))
   (A.cond (A.drw (DA.pur 0 (DA.pur 1 (DA.pur 2 (DA.pur 3 (DA.pur 4 (DA.pur 5 (DA.pur 6 (DA.pur 7 (DA.pur 8 (DA.eff 9 (DA.eff 10 (DA.pur 11 (DA.eff 12 DA.done))))))))))))))
   (A.seq (A.reg (Pw.rn 2 RA.done))
   (A.cond (A.drw (DA.pur 0 (DA.pur 1 (DA.pur 2 (DA.pur 3 (DA.pur 4 (DA.pur 5 (DA.pur 6 (DA.pur 7 (DA.eff 8 (DA.eff 9 (DA.pur 10 (DA.eff 11 DA.done)))))))))))))
   (A.seq (A.reg (Pw.rn 2 RA.done))
   (A.cond (A.drw (DA.pur 0 (DA.pur 1 (DA.pur 2 (DA.pur 3 (DA.pur 4 (DA.pur 5 (DA.pur 6 (DA.eff 7 (DA.pur 8 (DA.eff 9 (DA.eff 10 (DA.pur 11 (DA.eff 12 DA.done))))))))))))))
   (A.seq (A.reg (Pw.rn 2 RA.done))
   (A.cond (A.drw (DA.pur 0 (DA.pur 1 (DA.pur 2 (DA.pur 3 (DA.pur 4 (DA.pur 5 (DA.eff 6 (DA.pur 7 (DA.pur 8 (DA.eff 9 (DA.eff 10 (DA.pur 11 (DA.eff 12 DA.done))))))))))))))
   (A.seq (A.reg (Pw.rn 2 RA.done))
   (A.cond (A.drw (DA.pur 0 (DA.pur 1 (DA.pur 2 (DA.pur 3 (DA.pur 4 (DA.pur 5 (DA.pur 7 (DA.eff 6 (DA.pur 8 (DA.eff 9 (DA.eff 10 (DA.pur 11 (DA.eff 12 DA.done))))))))))))))
   (A.seq (A.reg (Pw.rn 2 RA.done))
   (A.cond (A.reg (Pw.rn 2 RA.done))
   (A.seq (A.reg (Pw.rn 2 RA.done))
   (A.cond (A.seq (A.reg (RA.run RA.done))
   (A.blk (A.loop [2, 4, 6, 7] (Rf_Spoiled_P0 Kv) (A.seq (A.seq (A.drw (DA.pur 0 (DA.pur 1 (DA.pur 4 (DA.pur 5 (DA.pur 6 (DA.eff 2 (DA.pur 3 (DA.pur 7 (DA.pur 8 (DA.pur 9 DA.done)))))))))))
   (A.cond A.leaf
   A.leaf))
   (A.seq (A.blk (A.reg (Pw.rn 8 RA.done)))
   (A.reg (Pw.rn 3 RA.done)))))))
   A.leaf))))))))))))))))))))))))
   (A.cut [2, 4] (Rf_Spoiled_P1 Kv) (A.seq (A.reg (Pw.rn 2 RA.done))
   A.leaf)))))))))
noncomputable def Rf_Spoiled_O (Kv : VW) : List Ob := (obs Try.prog Rf_Spoiled_E 153 (Rf_Spoiled_A Kv) Rf_Spoiled_C (fun _ => retQ Try.prog Try.f11.results Kv))
theorem Rf_Spoiled_e (Kv : VW) (p_0_0p : Option Addr) (p_0_0l p_0_0c : Nat) (p_0_1p : Option Addr) (p_0_1l p_0_1c : Nat) (p_0_2p : Option Addr) (p_0_2l p_0_2c : Nat) (p_0_3 p_0_4 : Int) (q_1_0 q_1_1 q_1_2 : Int) (w : World) : Rf_Spoiled_sd ⟨p_0_0p, p_0_0l, p_0_0c⟩ ⟨p_0_1p, p_0_1l, p_0_1c⟩ ⟨p_0_2p, p_0_2l, p_0_2c⟩ p_0_3 p_0_4 q_1_0 q_1_1 q_1_2 (fun r0_0 r0_1 r0_2 r0_3 r0_4 w' => Kv (Value.agg #[(Value.slice r0_0.p r0_0.l r0_0.c), (Value.slice r0_1.p r0_1.l r0_1.c), (Value.slice r0_2.p r0_2.l r0_2.c), (Value.int .i64 r0_3), (Value.int .i64 r0_4)]) w') w = W Try.prog Rf_Spoiled_E 153 (Rf_Spoiled_A Kv) Rf_Spoiled_C [] (retQ Try.prog Try.f11.results Kv) [] (startS [(Value.agg #[(Value.slice p_0_0p p_0_0l p_0_0c), (Value.slice p_0_1p p_0_1l p_0_1c), (Value.slice p_0_2p p_0_2l p_0_2c), (Value.int .i64 p_0_3), (Value.int .i64 p_0_4)]), (Value.agg #[(Value.int .i64 q_1_0), (Value.int .i64 q_1_1), (Value.int .i64 q_1_2)])]) w := by kernel_rfl
theorem Rf_Spoiled_e0 (Kv : VW) (N0 : List Value -> World -> Prop) (ρ : Rho) (p_2 t_4 : Addr) (k_6 i_7 : Int) (w : World) : Rf_Spoiled_b0 p_2 t_4 k_6 i_7 (fun p_2' t_4' k_6' i_7' w' => N0 [(Value.pointer (some p_2')), (Value.pointer (some t_4')), (Value.int .i64 k_6'), (Value.int .i64 i_7')] w') (fun r0_0 r0_1 r0_2 r0_3 r0_4 w' => Kv (Value.agg #[(Value.slice r0_0.p r0_0.l r0_0.c), (Value.slice r0_1.p r0_1.l r0_1.c), (Value.slice r0_2.p r0_2.l r0_2.c), (Value.int .i64 r0_3), (Value.int .i64 r0_4)]) w') w = goalAt Try.prog Rf_Spoiled_E 153 (Rf_Spoiled_O Kv) 0 (N0 :: ρ) [(Value.pointer (some p_2)), (Value.pointer (some t_4)), (Value.int .i64 k_6), (Value.int .i64 i_7)] w := by kernel_rfl
theorem Rf_Spoiled_q0 (Kv : VW) (ρ : Rho) (vs : List Value) (w : World) : labAt (Rf_Spoiled_O Kv) 0 ρ vs w = Rf_Spoiled_P0 Kv ρ vs w := by kernel_rfl
def Rf_Spoiled_I0 (p_20 t_40 : Addr) (k_60 : Int) (I : Int -> World -> Prop) (vs : List Value) (w : World) : Prop :=
  match vs with
  | [.pointer (some p_2), .pointer (some t_4), .int .i64 k_6, .int .i64 i_7] => (p_2 = p_20 /\ t_4 = t_40 /\ k_6 = k_60 /\ True) /\ I i_7 w
  | _ => False
def Rf_Spoiled_M0 (μ : Int -> World -> Nat) (vs : List Value) (w : World) : Nat :=
  match vs with
  | [.pointer (some _p_2), .pointer (some _t_4), .int .i64 _k_6, .int .i64 i_7] => μ i_7 w
  | _ => 0
theorem Rf_Spoiled_h0 (Kv : VW) : holdsAt Try.prog Rf_Spoiled_E 153 (Rf_Spoiled_O Kv) 0 := holdsAt_loop (by kernel_rfl) (fun ρ vs w h => by
  rw [Rf_Spoiled_q0] at h
  unfold Rf_Spoiled_P0 at h
  split at h
  · rename_i ρt p_2 t_4 k_6 i_7
    obtain ⟨I, μ, h0, hr⟩ := h.out
    refine ⟨Rf_Spoiled_I0 p_2 t_4 k_6 I, Rf_Spoiled_M0 μ, ⟨⟨rfl, rfl, rfl, trivial⟩, h0⟩, fun vs w hI => ?_⟩
    unfold Rf_Spoiled_I0 at hI
    split at hI
    · obtain ⟨⟨h0, h1, h2, _⟩, hI⟩ := hI
      cases h0; cases h1; cases h2
      rw [← Rf_Spoiled_e0]
      exact hr _ _ hI
    · exact hI.elim
  · exact h.elim)
theorem Rf_Spoiled_e1 (Kv : VW) (ρ : Rho) (p_2 t_4 : Addr) (w : World) : Rf_Spoiled_k1d p_2 t_4 (fun r0_0 r0_1 r0_2 r0_3 r0_4 w' => Kv (Value.agg #[(Value.slice r0_0.p r0_0.l r0_0.c), (Value.slice r0_1.p r0_1.l r0_1.c), (Value.slice r0_2.p r0_2.l r0_2.c), (Value.int .i64 r0_3), (Value.int .i64 r0_4)]) w') w = goalAt Try.prog Rf_Spoiled_E 153 (Rf_Spoiled_O Kv) 1 (ρ) [(Value.pointer (some p_2)), (Value.pointer (some t_4))] w := by kernel_rfl
theorem Rf_Spoiled_q1 (Kv : VW) (ρ : Rho) (vs : List Value) (w : World) : labAt (Rf_Spoiled_O Kv) 1 ρ vs w = Rf_Spoiled_P1 Kv ρ vs w := by kernel_rfl
theorem Rf_Spoiled_h1 (Kv : VW) : holdsAt Try.prog Rf_Spoiled_E 153 (Rf_Spoiled_O Kv) 1 := holdsAt_cut (.inl (by kernel_rfl)) (fun ρ vs w h => by
  rw [Rf_Spoiled_q1] at h
  unfold Rf_Spoiled_P1 at h
  split at h
  · rw [← Rf_Spoiled_e1]; exact h.out
  · exact h.elim)
theorem Rf_Spoiled_n (Kv : VW) : obAt (Rf_Spoiled_O Kv) 2 = none := by kernel_rfl
theorem Rf_Spoiled_h (Kv : VW) : ∀ k, holdsAt Try.prog Rf_Spoiled_E 153 (Rf_Spoiled_O Kv) k := fun k => match k with
  | 0 => Rf_Spoiled_h0 Kv
  | 1 => Rf_Spoiled_h1 Kv
  | _k + 2 => holdsAt_ge (Rf_Spoiled_n Kv) (Nat.le_add_left _ _)
theorem Rf_Spoiled_ok : Sound Try.prog 11 Rf_Spoiled_S := ⟨Try.call11, fun vs w Kv h => by
  unfold Rf_Spoiled_S at h
  split at h
  · have h := h.out
    rw [Rf_Spoiled_e] at h
    exact calls_sound (Γ := Rf_Spoiled_E) progMixed ⟨.inl Rg_Mod_ok, trivial⟩ Try.func11 (code := Rf_Spoiled_C) (by kernel_rfl) (Rf_Spoiled_A Kv) Kv (holds_all (Rf_Spoiled_h Kv)) (Nat.le_of_ble_eq_true (by kernel_rfl)) h
  · exact h.elim⟩
/-! Rf_contains -/
def Rf_contains_b0 (l_0 : Sl) (n_1 i_5 : Int) (N0 : Sl -> Int -> Int -> World -> Prop) (K : Bool -> World -> Prop) (w : World) : Prop :=
  cnd (decide (i_5 < (l_0.l : Int)))
    (nz l_0.p fun a1 => (0 <= i_5 /\ i_5 < (l_0.l : Nat)) /\ ∃ x2 : Int, w.cell? (a1.add (i_5.toNat * 1)) = some (Value.int .i64 x2) /\ cnd (x2 == n_1)
    (K true w)
    (inR .i64 (i_5 + (1 : Int)) /\ N0 l_0 n_1 (i_5 + (1 : Int)) w))
    (K false w)
def Rf_contains_l0d (l_0 : Sl) (n_1 i_5 : Int) (K : Bool -> World -> Prop) (w : World) : Prop :=
  ∃ (I : Int -> World -> Prop) (μ : Int -> World -> Nat), I i_5 w /\ ∀ (i_51 : Int) (w1 : World), I i_51 w1 ->
    Rf_contains_b0 l_0 n_1 i_51 (fun l_0' n_1' i_5' w' => ((l_0' = l_0 /\ n_1' = n_1 /\ True) /\ I i_5' w') /\ μ i_5' w' < μ i_51 w1) K w1
structure Rf_contains_l0 (l_0 : Sl) (n_1 i_5 : Int) (K : Bool -> World -> Prop) (w : World) : Prop where
  out : Rf_contains_l0d l_0 n_1 i_5 K w
def Rf_contains_sd (l_0 : Sl) (n_1 : Int) (K : Bool -> World -> Prop) (w : World) : Prop :=
  Rf_contains_l0 l_0 n_1 (0 : Int) K w
structure Rf_contains_sh (l_0 : Sl) (n_1 : Int) (K : Bool -> World -> Prop) (w : World) : Prop where
  out : Rf_contains_sd l_0 n_1 K w
def Rf_contains_P0 (Kv : VW) (ρ : Rho) (vs : List Value) (w : World) : Prop :=
  match ρ, vs with
  | _, [.slice l_0p l_0l l_0c, .int .i64 n_1, .int .i64 i_5] => Rf_contains_l0 ⟨l_0p, l_0l, l_0c⟩ n_1 i_5 (fun r0 w' => Kv (Value.bool r0) w') w
  | _, _ => False
noncomputable def Rf_contains_S : Pw.Spec := fun vs w Kv =>
  match vs with
  | [.slice l_0p l_0l l_0c, .int .i64 n_1] => Rf_contains_sh ⟨l_0p, l_0l, l_0c⟩ n_1 (fun r0 w' => Kv (Value.bool r0) w') w
  | _ => False
noncomputable def Rf_contains_E : Pw.Env := []
noncomputable def Rf_contains_C : Code := (Try.f28.body).getD .skip
noncomputable def Rf_contains_A (Kv : VW) : Pw.A :=
  (A.seq (A.reg (RA.run RA.done))
   (A.seq (A.seq (A.reg (RA.run RA.done))
   (A.blk (A.loop [0, 1, 5] (Rf_contains_P0 Kv) (A.seq (A.seq (A.reg (Pw.rn 4 RA.done))
   (A.cond A.leaf
   A.leaf))
   (A.seq (A.blk (A.seq (A.reg (Pw.rn 6 RA.done))
   (A.cond (A.seq (A.reg (RA.run RA.done))
   A.leaf)
   A.leaf)))
   (A.reg (Pw.rn 3 RA.done)))))))
   (A.seq (A.reg (RA.run RA.done))
   A.leaf)))
noncomputable def Rf_contains_O (Kv : VW) : List Ob := (obs Try.prog Rf_contains_E 18 (Rf_contains_A Kv) Rf_contains_C (fun _ => retQ Try.prog Try.f28.results Kv))
theorem Rf_contains_e (Kv : VW) (l_0p : Option Addr) (l_0l l_0c : Nat) (n_1 : Int) (w : World) : Rf_contains_sd ⟨l_0p, l_0l, l_0c⟩ n_1 (fun r0 w' => Kv (Value.bool r0) w') w = W Try.prog Rf_contains_E 18 (Rf_contains_A Kv) Rf_contains_C [] (retQ Try.prog Try.f28.results Kv) [] (startS [(Value.slice l_0p l_0l l_0c), (Value.int .i64 n_1)]) w := by kernel_rfl
theorem Rf_contains_e0 (Kv : VW) (N0 : List Value -> World -> Prop) (ρ : Rho) (l_0p : Option Addr) (l_0l l_0c : Nat) (n_1 i_5 : Int) (w : World) : Rf_contains_b0 ⟨l_0p, l_0l, l_0c⟩ n_1 i_5 (fun l_0' n_1' i_5' w' => N0 [(Value.slice l_0'.p l_0'.l l_0'.c), (Value.int .i64 n_1'), (Value.int .i64 i_5')] w') (fun r0 w' => Kv (Value.bool r0) w') w = goalAt Try.prog Rf_contains_E 18 (Rf_contains_O Kv) 0 (N0 :: ρ) [(Value.slice l_0p l_0l l_0c), (Value.int .i64 n_1), (Value.int .i64 i_5)] w := by kernel_rfl
theorem Rf_contains_q0 (Kv : VW) (ρ : Rho) (vs : List Value) (w : World) : labAt (Rf_contains_O Kv) 0 ρ vs w = Rf_contains_P0 Kv ρ vs w := by kernel_rfl
def Rf_contains_I0 (l_00 : Sl) (n_10 : Int) (I : Int -> World -> Prop) (vs : List Value) (w : World) : Prop :=
  match vs with
  | [.slice l_0p l_0l l_0c, .int .i64 n_1, .int .i64 i_5] => (⟨l_0p, l_0l, l_0c⟩ = l_00 /\ n_1 = n_10 /\ True) /\ I i_5 w
  | _ => False
def Rf_contains_M0 (μ : Int -> World -> Nat) (vs : List Value) (w : World) : Nat :=
  match vs with
  | [.slice _l_0p _l_0l _l_0c, .int .i64 _n_1, .int .i64 i_5] => μ i_5 w
  | _ => 0
theorem Rf_contains_h0 (Kv : VW) : holdsAt Try.prog Rf_contains_E 18 (Rf_contains_O Kv) 0 := holdsAt_loop (by kernel_rfl) (fun ρ vs w h => by
  rw [Rf_contains_q0] at h
  unfold Rf_contains_P0 at h
  split at h
  · rename_i ρt l_0p l_0l l_0c n_1 i_5
    obtain ⟨I, μ, h0, hr⟩ := h.out
    refine ⟨Rf_contains_I0 ⟨l_0p, l_0l, l_0c⟩ n_1 I, Rf_contains_M0 μ, ⟨⟨rfl, rfl, trivial⟩, h0⟩, fun vs w hI => ?_⟩
    unfold Rf_contains_I0 at hI
    split at hI
    · obtain ⟨⟨h0, h1, _⟩, hI⟩ := hI
      cases h0; cases h1
      rw [← Rf_contains_e0]
      exact hr _ _ hI
    · exact hI.elim
  · exact h.elim)
theorem Rf_contains_n (Kv : VW) : obAt (Rf_contains_O Kv) 1 = none := by kernel_rfl
theorem Rf_contains_h (Kv : VW) : ∀ k, holdsAt Try.prog Rf_contains_E 18 (Rf_contains_O Kv) k := fun k => match k with
  | 0 => Rf_contains_h0 Kv
  | _k + 1 => holdsAt_ge (Rf_contains_n Kv) (Nat.le_add_left _ _)
theorem Rf_contains_ok : Sound Try.prog 28 Rf_contains_S := ⟨Try.call28, fun vs w Kv h => by
  unfold Rf_contains_S at h
  split at h
  · have h := h.out
    rw [Rf_contains_e] at h
    exact calls_sound (Γ := Rf_contains_E) progMixed trivial Try.func28 (code := Rf_contains_C) (by kernel_rfl) (Rf_contains_A Kv) Kv (holds_all (Rf_contains_h Kv)) (Nat.le_of_ble_eq_true (by kernel_rfl)) h
  · exact h.elim⟩
/-! Rf_different -/
def Rf_different_b0 (l_0 : Sl) (i_3 : Int) (N0 : Sl -> Int -> World -> Prop) (K : Bool -> World -> Prop) (w : World) : Prop :=
  cnd (decide (i_3 < (l_0.l : Int)))
    (let w1 := w.drew
  ∃ S2 : World -> Prop, S2 w1 /\ (0 <= (0 : Int) /\ (0 : Int) <= i_3 /\ i_3 <= (l_0.c : Nat)) /\ nz l_0.p fun a3 => (0 <= i_3 /\ i_3 < (l_0.l : Nat)) /\ ∃ x4 : Int, (∀ w' : World, S2 w' -> w'.cell? (a3.add (i_3.toNat * 1)) = some (Value.int .i64 x4)) /\ Rf_contains_sh (Sl.mk (subP l_0.p 0 l_0.c 1) (i_3.toNat - 0) (l_0.c - 0)) x4 (fun r6 w5 => cnd r6
    (K false w5)
    (inR .i64 (i_3 + (1 : Int)) /\ N0 l_0 (i_3 + (1 : Int)) w5)) w1)
    (K true w)
def Rf_different_l0d (l_0 : Sl) (i_3 : Int) (K : Bool -> World -> Prop) (w : World) : Prop :=
  ∃ (I : Int -> World -> Prop) (μ : Int -> World -> Nat), I i_3 w /\ ∀ (i_31 : Int) (w1 : World), I i_31 w1 ->
    Rf_different_b0 l_0 i_31 (fun l_0' i_3' w' => ((l_0' = l_0 /\ True) /\ I i_3' w') /\ μ i_3' w' < μ i_31 w1) K w1
structure Rf_different_l0 (l_0 : Sl) (i_3 : Int) (K : Bool -> World -> Prop) (w : World) : Prop where
  out : Rf_different_l0d l_0 i_3 K w
def Rf_different_sd (l_0 : Sl) (K : Bool -> World -> Prop) (w : World) : Prop :=
  Rf_different_l0 l_0 (0 : Int) K w
structure Rf_different_sh (l_0 : Sl) (K : Bool -> World -> Prop) (w : World) : Prop where
  out : Rf_different_sd l_0 K w
def Rf_different_P0 (Kv : VW) (ρ : Rho) (vs : List Value) (w : World) : Prop :=
  match ρ, vs with
  | _, [.slice l_0p l_0l l_0c, .int .i64 i_3] => Rf_different_l0 ⟨l_0p, l_0l, l_0c⟩ i_3 (fun r0 w' => Kv (Value.bool r0) w') w
  | _, _ => False
noncomputable def Rf_different_S : Pw.Spec := fun vs w Kv =>
  match vs with
  | [.slice l_0p l_0l l_0c] => Rf_different_sh ⟨l_0p, l_0l, l_0c⟩ (fun r0 w' => Kv (Value.bool r0) w') w
  | _ => False
noncomputable def Rf_different_E : Pw.Env := [(28, Rf_contains_S)]
noncomputable def Rf_different_C : Code := (Try.f26.body).getD .skip
noncomputable def Rf_different_A (Kv : VW) : Pw.A :=
  (A.seq (A.reg (RA.run RA.done))
   (A.seq (A.seq (A.reg (RA.run RA.done))
   (A.blk (A.loop [0, 3] (Rf_different_P0 Kv) (A.seq (A.seq (A.reg (Pw.rn 4 RA.done))
   (A.cond A.leaf
   A.leaf))
   (A.seq (A.blk (A.seq (A.drw (DA.pur 0 (DA.pur 1 (DA.pur 2 (DA.pur 3 (DA.pur 4 (DA.pur 5 (DA.pur 6 (DA.eff 7 DA.done)))))))))
   (A.cond (A.seq (A.reg (RA.run RA.done))
   A.leaf)
   A.leaf)))
   (A.reg (Pw.rn 3 RA.done)))))))
   (A.seq (A.reg (RA.run RA.done))
   A.leaf)))
noncomputable def Rf_different_O (Kv : VW) : List Ob := (obs Try.prog Rf_different_E 18 (Rf_different_A Kv) Rf_different_C (fun _ => retQ Try.prog Try.f26.results Kv))
theorem Rf_different_e (Kv : VW) (l_0p : Option Addr) (l_0l l_0c : Nat) (w : World) : Rf_different_sd ⟨l_0p, l_0l, l_0c⟩ (fun r0 w' => Kv (Value.bool r0) w') w = W Try.prog Rf_different_E 18 (Rf_different_A Kv) Rf_different_C [] (retQ Try.prog Try.f26.results Kv) [] (startS [(Value.slice l_0p l_0l l_0c)]) w := by kernel_rfl
theorem Rf_different_e0 (Kv : VW) (N0 : List Value -> World -> Prop) (ρ : Rho) (l_0p : Option Addr) (l_0l l_0c : Nat) (i_3 : Int) (w : World) : Rf_different_b0 ⟨l_0p, l_0l, l_0c⟩ i_3 (fun l_0' i_3' w' => N0 [(Value.slice l_0'.p l_0'.l l_0'.c), (Value.int .i64 i_3')] w') (fun r0 w' => Kv (Value.bool r0) w') w = goalAt Try.prog Rf_different_E 18 (Rf_different_O Kv) 0 (N0 :: ρ) [(Value.slice l_0p l_0l l_0c), (Value.int .i64 i_3)] w := by kernel_rfl
theorem Rf_different_q0 (Kv : VW) (ρ : Rho) (vs : List Value) (w : World) : labAt (Rf_different_O Kv) 0 ρ vs w = Rf_different_P0 Kv ρ vs w := by kernel_rfl
def Rf_different_I0 (l_00 : Sl) (I : Int -> World -> Prop) (vs : List Value) (w : World) : Prop :=
  match vs with
  | [.slice l_0p l_0l l_0c, .int .i64 i_3] => (⟨l_0p, l_0l, l_0c⟩ = l_00 /\ True) /\ I i_3 w
  | _ => False
def Rf_different_M0 (μ : Int -> World -> Nat) (vs : List Value) (w : World) : Nat :=
  match vs with
  | [.slice _l_0p _l_0l _l_0c, .int .i64 i_3] => μ i_3 w
  | _ => 0
theorem Rf_different_h0 (Kv : VW) : holdsAt Try.prog Rf_different_E 18 (Rf_different_O Kv) 0 := holdsAt_loop (by kernel_rfl) (fun ρ vs w h => by
  rw [Rf_different_q0] at h
  unfold Rf_different_P0 at h
  split at h
  · rename_i ρt l_0p l_0l l_0c i_3
    obtain ⟨I, μ, h0, hr⟩ := h.out
    refine ⟨Rf_different_I0 ⟨l_0p, l_0l, l_0c⟩ I, Rf_different_M0 μ, ⟨⟨rfl, trivial⟩, h0⟩, fun vs w hI => ?_⟩
    unfold Rf_different_I0 at hI
    split at hI
    · obtain ⟨⟨h0, _⟩, hI⟩ := hI
      cases h0
      rw [← Rf_different_e0]
      exact hr _ _ hI
    · exact hI.elim
  · exact h.elim)
theorem Rf_different_n (Kv : VW) : obAt (Rf_different_O Kv) 1 = none := by kernel_rfl
theorem Rf_different_h (Kv : VW) : ∀ k, holdsAt Try.prog Rf_different_E 18 (Rf_different_O Kv) k := fun k => match k with
  | 0 => Rf_different_h0 Kv
  | _k + 1 => holdsAt_ge (Rf_different_n Kv) (Nat.le_add_left _ _)
theorem Rf_different_ok : Sound Try.prog 26 Rf_different_S := ⟨Try.call26, fun vs w Kv h => by
  unfold Rf_different_S at h
  split at h
  · have h := h.out
    rw [Rf_different_e] at h
    exact calls_sound (Γ := Rf_different_E) progMixed ⟨.inl Rf_contains_ok, trivial⟩ Try.func26 (code := Rf_different_C) (by kernel_rfl) (Rf_different_A Kv) Kv (holds_all (Rf_different_h Kv)) (Nat.le_of_ble_eq_true (by kernel_rfl)) h
  · exact h.elim⟩
/-! Rf_within -/
def Rf_within_sd (n_0 most_1 : Int) (K : Bool -> World -> Prop) (w : World) : Prop :=
  cnd (decide (n_0 >= (0 : Int)))
    (K (decide (n_0 <= most_1)) w)
    (K false w)
structure Rf_within_sh (n_0 most_1 : Int) (K : Bool -> World -> Prop) (w : World) : Prop where
  out : Rf_within_sd n_0 most_1 K w
noncomputable def Rf_within_S : Pw.Spec := fun vs w Kv =>
  match vs with
  | [.int .i64 n_0, .int .i64 most_1] => Rf_within_sh n_0 most_1 (fun r0 w' => Kv (Value.bool r0) w') w
  | _ => False
noncomputable def Rf_within_E : Pw.Env := []
noncomputable def Rf_within_C : Code := (Try.f27.body).getD .skip
noncomputable def Rf_within_A (_Kv : VW) : Pw.A :=
  (A.seq (A.reg (RA.run RA.done))
   (A.seq (A.reg (Pw.rn 3 (RA.spl 7 (Pw.rn 5 RA.done) (Pw.sk 3 (Pw.rn 2 RA.done)))))
   A.leaf))
noncomputable def Rf_within_O (Kv : VW) : List Ob := (obs Try.prog Rf_within_E 12 (Rf_within_A Kv) Rf_within_C (fun _ => retQ Try.prog Try.f27.results Kv))
theorem Rf_within_e (Kv : VW) (n_0 most_1 : Int) (w : World) : Rf_within_sd n_0 most_1 (fun r0 w' => Kv (Value.bool r0) w') w = W Try.prog Rf_within_E 12 (Rf_within_A Kv) Rf_within_C [] (retQ Try.prog Try.f27.results Kv) [] (startS [(Value.int .i64 n_0), (Value.int .i64 most_1)]) w := by kernel_rfl
theorem Rf_within_n (Kv : VW) : obAt (Rf_within_O Kv) 0 = none := by kernel_rfl
theorem Rf_within_h (Kv : VW) : ∀ k, holdsAt Try.prog Rf_within_E 12 (Rf_within_O Kv) k := fun _ => holdsAt_ge (Rf_within_n Kv) (Nat.zero_le _)
theorem Rf_within_ok : Sound Try.prog 27 Rf_within_S := ⟨Try.call27, fun vs w Kv h => by
  unfold Rf_within_S at h
  split at h
  · have h := h.out
    rw [Rf_within_e] at h
    exact calls_sound (Γ := Rf_within_E) progMixed trivial Try.func27 (code := Rf_within_C) (by kernel_rfl) (Rf_within_A Kv) Kv (holds_all (Rf_within_h Kv)) (Nat.le_of_ble_eq_true (by kernel_rfl)) h
  · exact h.elim⟩
/-! Rf_Right -/
def Rf_Right_b2 (p_1 : Addr) (i_5 : Int) (d_6 : Addr) (k_7 : Int) (N2 : Addr -> Int -> Addr -> Int -> World -> Prop) (N1 : Addr -> Int -> World -> Prop) (K : Bool -> World -> Prop) (w : World) : Prop :=
  ∃ x49 : Sl, w.cell? (d_6.add 1) = some (Value.slice x49.p x49.l x49.c) /\ cnd (decide (k_7 < (x49.l : Int)))
    (let w50 := w.drew
  ∃ S51 : World -> Prop, S51 w50 /\ ∃ x52 : Sl, (∀ w' : World, S51 w' -> w'.cell? p_1 = some (Value.slice x52.p x52.l x52.c)) /\ ∃ x53 : Sl, (∀ w' : World, S51 w' -> w'.cell? (d_6.add 1) = some (Value.slice x53.p x53.l x53.c)) /\ nz x53.p fun a54 => (0 <= k_7 /\ k_7 < (x53.l : Nat)) /\ ∃ x55 : Int, (∀ w' : World, S51 w' -> w'.cell? (a54.add (k_7.toNat * 1)) = some (Value.int .i64 x55)) /\ Rf_contains_sh x52 x55 (fun r57 w56 => S51 w56 /\ cnd (!r57)
    (K false w56)
    (inR .i64 (k_7 + (1 : Int)) /\ N2 p_1 i_5 d_6 (k_7 + (1 : Int)) w56)) w50)
    (inR .i64 (i_5 + (1 : Int)) /\ N1 p_1 (i_5 + (1 : Int)) w)
def Rf_Right_l2d (p_1 : Addr) (i_5 : Int) (d_6 : Addr) (k_7 : Int) (N1 : Addr -> Int -> World -> Prop) (K : Bool -> World -> Prop) (w : World) : Prop :=
  ∃ (I : Int -> World -> Prop) (μ : Int -> World -> Nat), I k_7 w /\ ∀ (k_71 : Int) (w1 : World), I k_71 w1 ->
    Rf_Right_b2 p_1 i_5 d_6 k_71 (fun p_1' i_5' d_6' k_7' w' => ((p_1' = p_1 /\ i_5' = i_5 /\ d_6' = d_6 /\ True) /\ I k_7' w') /\ μ k_7' w' < μ k_71 w1) N1 K w1
structure Rf_Right_l2 (p_1 : Addr) (i_5 : Int) (d_6 : Addr) (k_7 : Int) (N1 : Addr -> Int -> World -> Prop) (K : Bool -> World -> Prop) (w : World) : Prop where
  out : Rf_Right_l2d p_1 i_5 d_6 k_7 N1 K w
def Rf_Right_b1 (p_1 : Addr) (i_5 : Int) (N1 : Addr -> Int -> World -> Prop) (K : Bool -> World -> Prop) (w : World) : Prop :=
  ∃ x34 : Sl, w.cell? (p_1.add 2) = some (Value.slice x34.p x34.l x34.c) /\ cnd (decide (i_5 < (x34.l : Int)))
    (∃ x35 : Sl, w.cell? (p_1.add 2) = some (Value.slice x35.p x35.l x35.c) /\ nz x35.p fun a36 => (0 <= i_5 /\ i_5 < (x35.l : Nat)) /\ ∃ x37 : Int, w.cell? (a36.add (i_5.toNat * 3)) = some (Value.int .i64 x37) /\ ∃ x38 : Sl, w.cell? ((a36.add (i_5.toNat * 3)).add 1) = some (Value.slice x38.p x38.l x38.c) /\ ∃ x39 : Int, w.cell? ((a36.add (i_5.toNat * 3)).add 2) = some (Value.int .i64 x39) /\ let w40 := w.alloc (Obj.cells #[(Value.int .i64 0), (Value.slice none 0 0), (Value.int .i64 0)] 58)
  stN w40 (Addr.mk w.heap.size 0 none) [(Value.int .i64 x37), (Value.slice x38.p x38.l x38.c), (Value.int .i64 x39)] fun w41 => ∃ x42 : Sl, w41.cell? (Addr.mk w.heap.size 1 none) = some (Value.slice x42.p x42.l x42.c) /\ cnd ((x42.l : Int) == (0 : Int))
    (K false w41)
    (∃ x43 : Sl, w41.cell? (Addr.mk w.heap.size 1 none) = some (Value.slice x43.p x43.l x43.c) /\ Rf_different_sh x43 (fun r45 w44 => cnd (!r45)
    (K false w44)
    (∃ x46 : Int, w44.cell? (Addr.mk w.heap.size 2 none) = some (Value.int .i64 x46) /\ Rf_within_sh x46 (1000000000 : Int) (fun r48 w47 => cnd (!r48)
    (K false w47)
    (Rf_Right_l2 p_1 i_5 (Addr.mk w.heap.size 0 none) (0 : Int) N1 K w47)) w44)) w41))
    (K true w)
def Rf_Right_l1d (p_1 : Addr) (i_5 : Int) (K : Bool -> World -> Prop) (w : World) : Prop :=
  ∃ (I : Int -> World -> Prop) (μ : Int -> World -> Nat), I i_5 w /\ ∀ (i_51 : Int) (w1 : World), I i_51 w1 ->
    Rf_Right_b1 p_1 i_51 (fun p_1' i_5' w' => ((p_1' = p_1 /\ True) /\ I i_5' w') /\ μ i_5' w' < μ i_51 w1) K w1
structure Rf_Right_l1 (p_1 : Addr) (i_5 : Int) (K : Bool -> World -> Prop) (w : World) : Prop where
  out : Rf_Right_l1d p_1 i_5 K w
def Rf_Right_b0 (p_1 : Addr) (i_3 : Int) (N0 : Addr -> Int -> World -> Prop) (K : Bool -> World -> Prop) (w : World) : Prop :=
  ∃ x15 : Sl, w.cell? (p_1.add 1) = some (Value.slice x15.p x15.l x15.c) /\ cnd (decide (i_3 < (x15.l : Int)))
    (∃ x16 : Sl, w.cell? (p_1.add 1) = some (Value.slice x16.p x16.l x16.c) /\ nz x16.p fun a17 => (0 <= i_3 /\ i_3 < (x16.l : Nat)) /\ ∃ x18 : Int, w.cell? (a17.add (i_3.toNat * 4)) = some (Value.int .i64 x18) /\ ∃ x19 : Int, w.cell? ((a17.add (i_3.toNat * 4)).add 1) = some (Value.int .i64 x19) /\ ∃ x20 : Int, w.cell? ((a17.add (i_3.toNat * 4)).add 2) = some (Value.int .i64 x20) /\ ∃ x21 : Int, w.cell? ((a17.add (i_3.toNat * 4)).add 3) = some (Value.int .i64 x21) /\ let w22 := w.alloc (Obj.cells #[(Value.int .i64 0), (Value.int .i64 0), (Value.int .i64 0), (Value.int .i64 0)] 56)
  stN w22 (Addr.mk w.heap.size 0 none) [(Value.int .i64 x18), (Value.int .i64 x19), (Value.int .i64 x20), (Value.int .i64 x21)] fun w23 => ∃ x24 : Sl, w23.cell? p_1 = some (Value.slice x24.p x24.l x24.c) /\ ∃ x25 : Int, w23.cell? (Addr.mk w.heap.size 0 none) = some (Value.int .i64 x25) /\ Rf_contains_sh x24 x25 (fun r27 w26 => cnd (!r27)
    (K false w26)
    (∃ x28 : Int, w26.cell? (Addr.mk w.heap.size 2 none) = some (Value.int .i64 x28) /\ Rf_within_sh x28 (1000000000 : Int) (fun r30 w29 => cnd (!r30)
    (K false w29)
    (∃ x31 : Int, w29.cell? (Addr.mk w.heap.size 3 none) = some (Value.int .i64 x31) /\ Rf_within_sh x31 (1000000 : Int) (fun r33 w32 => cnd (!r33)
    (K false w32)
    (inR .i64 (i_3 + (1 : Int)) /\ N0 p_1 (i_3 + (1 : Int)) w32)) w29)) w26)) w23)
    (Rf_Right_l1 p_1 (0 : Int) K w)
def Rf_Right_l0d (p_1 : Addr) (i_3 : Int) (K : Bool -> World -> Prop) (w : World) : Prop :=
  ∃ (I : Int -> World -> Prop) (μ : Int -> World -> Nat), I i_3 w /\ ∀ (i_31 : Int) (w1 : World), I i_31 w1 ->
    Rf_Right_b0 p_1 i_31 (fun p_1' i_3' w' => ((p_1' = p_1 /\ True) /\ I i_3' w') /\ μ i_3' w' < μ i_31 w1) K w1
structure Rf_Right_l0 (p_1 : Addr) (i_3 : Int) (K : Bool -> World -> Prop) (w : World) : Prop where
  out : Rf_Right_l0d p_1 i_3 K w
def Rf_Right_sd (p_0_0 p_0_1 p_0_2 : Sl) (p_0_3 p_0_4 : Int) (K : Bool -> World -> Prop) (w : World) : Prop :=
  let w1 := w.alloc (Obj.cells #[(Value.slice p_0_0.p p_0_0.l p_0_0.c), (Value.slice p_0_1.p p_0_1.l p_0_1.c), (Value.slice p_0_2.p p_0_2.l p_0_2.c), (Value.int .i64 p_0_3), (Value.int .i64 p_0_4)] 28)
  ∃ x2 : Sl, w1.cell? (Addr.mk w.heap.size 0 none) = some (Value.slice x2.p x2.l x2.c) /\ cnd (decide ((x2.l : Int) < (1 : Int)))
    (K false w1)
    (∃ x3 : Sl, w1.cell? (Addr.mk w.heap.size 0 none) = some (Value.slice x3.p x3.l x3.c) /\ cnd (decide ((x3.l : Int) > (12 : Int)))
    (K false w1)
    (∃ x4 : Sl, w1.cell? (Addr.mk w.heap.size 0 none) = some (Value.slice x4.p x4.l x4.c) /\ Rf_different_sh x4 (fun r6 w5 => cnd (!r6)
    (K false w5)
    (∃ x7 : Sl, w5.cell? (Addr.mk w.heap.size 1 none) = some (Value.slice x7.p x7.l x7.c) /\ cnd (decide ((x7.l : Int) > (480 : Int)))
    (K false w5)
    (∃ x8 : Sl, w5.cell? (Addr.mk w.heap.size 2 none) = some (Value.slice x8.p x8.l x8.c) /\ cnd (decide ((x8.l : Int) > (100 : Int)))
    (K false w5)
    (∃ x9 : Int, w5.cell? (Addr.mk w.heap.size 3 none) = some (Value.int .i64 x9) /\ Rf_within_sh x9 (1000000000 : Int) (fun r11 w10 => cnd (!r11)
    (K false w10)
    (∃ x12 : Int, w10.cell? (Addr.mk w.heap.size 4 none) = some (Value.int .i64 x12) /\ Rf_within_sh x12 (1000000000 : Int) (fun r14 w13 => cnd (!r14)
    (K false w13)
    (Rf_Right_l0 (Addr.mk w.heap.size 0 none) (0 : Int) K w13)) w10)) w5)))) w1))
structure Rf_Right_sh (p_0_0 p_0_1 p_0_2 : Sl) (p_0_3 p_0_4 : Int) (K : Bool -> World -> Prop) (w : World) : Prop where
  out : Rf_Right_sd p_0_0 p_0_1 p_0_2 p_0_3 p_0_4 K w
def Rf_Right_P0 (Kv : VW) (ρ : Rho) (vs : List Value) (w : World) : Prop :=
  match ρ, vs with
  | _, [.pointer (some p_1), .int .i64 i_3] => Rf_Right_l0 p_1 i_3 (fun r0 w' => Kv (Value.bool r0) w') w
  | _, _ => False
def Rf_Right_P1 (Kv : VW) (ρ : Rho) (vs : List Value) (w : World) : Prop :=
  match ρ, vs with
  | _, [.pointer (some p_1), .int .i64 i_5] => Rf_Right_l1 p_1 i_5 (fun r0 w' => Kv (Value.bool r0) w') w
  | _, _ => False
def Rf_Right_P2 (Kv : VW) (ρ : Rho) (vs : List Value) (w : World) : Prop :=
  match ρ, vs with
  | N1 :: _, [.pointer (some p_1), .int .i64 i_5, .pointer (some d_6), .int .i64 k_7] => Rf_Right_l2 p_1 i_5 d_6 k_7 (fun p_1' i_5' w' => N1 [(Value.pointer (some p_1')), (Value.int .i64 i_5')] w') (fun r0 w' => Kv (Value.bool r0) w') w
  | _, _ => False
noncomputable def Rf_Right_S : Pw.Spec := fun vs w Kv =>
  match vs with
  | [.agg ⟨[.slice p_0_0p p_0_0l p_0_0c, .slice p_0_1p p_0_1l p_0_1c, .slice p_0_2p p_0_2l p_0_2c, .int .i64 p_0_3, .int .i64 p_0_4]⟩] => Rf_Right_sh ⟨p_0_0p, p_0_0l, p_0_0c⟩ ⟨p_0_1p, p_0_1l, p_0_1c⟩ ⟨p_0_2p, p_0_2l, p_0_2c⟩ p_0_3 p_0_4 (fun r0 w' => Kv (Value.bool r0) w') w
  | _ => False
noncomputable def Rf_Right_E : Pw.Env := [(26, Rf_different_S), (27, Rf_within_S), (28, Rf_contains_S)]
noncomputable def Rf_Right_C : Code := (Try.f12.body).getD .skip
noncomputable def Rf_Right_A (Kv : VW) : Pw.A :=
  (A.seq (A.reg (Pw.rn 2 RA.done))
   (A.seq (A.seq (A.reg (Pw.rn 5 (RA.spl 12 (Pw.sk 4 (Pw.rn 2 (Pw.sk 4 (Pw.rn 2 (Pw.sk 4 (Pw.rn 2 (Pw.sk 4 (Pw.rn 2 (Pw.sk 4 (Pw.rn 2 (Pw.sk 4 (RA.run RA.done)))))))))))) (Pw.rn 6 (RA.spl 18 (Pw.sk 4 (Pw.rn 2 (Pw.sk 4 (Pw.rn 2 (Pw.sk 4 (Pw.rn 2 (Pw.sk 4 (Pw.rn 2 (Pw.sk 4 (RA.run RA.done)))))))))) (Pw.rn 6 (RA.spl 24 (Pw.sk 4 (Pw.rn 2 (Pw.sk 4 (Pw.rn 2 (Pw.sk 4 (Pw.rn 2 (Pw.sk 4 (RA.run RA.done)))))))) (Pw.rn 6 (RA.spl 30 (Pw.sk 4 (Pw.rn 2 (Pw.sk 4 (Pw.rn 2 (Pw.sk 4 (RA.run RA.done)))))) (Pw.rn 6 (RA.spl 36 (Pw.sk 4 (Pw.rn 2 (Pw.sk 4 (RA.run RA.done)))) (Pw.rn 6 (RA.spl 42 (Pw.sk 4 (RA.run RA.done)) (Pw.rn 5 RA.done))))))))))))))
   (A.cond (A.seq (A.reg (RA.run RA.done))
   A.leaf)
   A.leaf))
   (A.seq (A.seq (A.reg (RA.run RA.done))
   (A.blk (A.loop [1, 3] (Rf_Right_P0 Kv) (A.seq (A.seq (A.reg (Pw.rn 5 RA.done))
   (A.cond A.leaf
   A.leaf))
   (A.seq (A.blk (A.seq (A.reg (Pw.rn 7 RA.done))
   (A.seq (A.reg (Pw.rn 7 (RA.spl 66 (Pw.sk 4 (Pw.rn 2 (Pw.sk 4 (RA.run RA.done)))) (Pw.rn 6 (RA.spl 72 (Pw.sk 4 (RA.run RA.done)) (Pw.rn 5 RA.done))))))
   (A.cond (A.seq (A.reg (RA.run RA.done))
   A.leaf)
   A.leaf))))
   (A.reg (Pw.rn 3 RA.done)))))))
   (A.seq (A.seq (A.reg (RA.run RA.done))
   (A.blk (A.loop [1, 5] (Rf_Right_P1 Kv) (A.seq (A.seq (A.reg (Pw.rn 5 RA.done))
   (A.cond A.leaf
   A.leaf))
   (A.seq (A.blk (A.seq (A.reg (Pw.rn 7 RA.done))
   (A.seq (A.seq (A.reg (Pw.rn 5 (RA.spl 94 (Pw.sk 4 (Pw.rn 2 (Pw.sk 4 (RA.run RA.done)))) (Pw.rn 6 (RA.spl 100 (Pw.sk 4 (RA.run RA.done)) (Pw.rn 5 RA.done))))))
   (A.cond (A.seq (A.reg (RA.run RA.done))
   A.leaf)
   A.leaf))
   (A.seq (A.reg (RA.run RA.done))
   (A.blk (A.loop [1, 5, 6, 7] (Rf_Right_P2 Kv) (A.seq (A.seq (A.reg (Pw.rn 5 RA.done))
   (A.cond A.leaf
   A.leaf))
   (A.seq (A.blk (A.seq (A.drw (DA.pur 0 (DA.pur 1 (DA.pur 2 (DA.pur 3 (DA.pur 4 (DA.pur 5 (DA.pur 6 (DA.eff 7 (DA.pur 8 DA.done))))))))))
   (A.cond (A.seq (A.reg (RA.run RA.done))
   A.leaf)
   A.leaf)))
   (A.reg (Pw.rn 3 RA.done))))))))))
   (A.reg (Pw.rn 3 RA.done)))))))
   (A.seq (A.reg (RA.run RA.done))
   A.leaf)))))
noncomputable def Rf_Right_O (Kv : VW) : List Ob := (obs Try.prog Rf_Right_E 122 (Rf_Right_A Kv) Rf_Right_C (fun _ => retQ Try.prog Try.f12.results Kv))
theorem Rf_Right_e (Kv : VW) (p_0_0p : Option Addr) (p_0_0l p_0_0c : Nat) (p_0_1p : Option Addr) (p_0_1l p_0_1c : Nat) (p_0_2p : Option Addr) (p_0_2l p_0_2c : Nat) (p_0_3 p_0_4 : Int) (w : World) : Rf_Right_sd ⟨p_0_0p, p_0_0l, p_0_0c⟩ ⟨p_0_1p, p_0_1l, p_0_1c⟩ ⟨p_0_2p, p_0_2l, p_0_2c⟩ p_0_3 p_0_4 (fun r0 w' => Kv (Value.bool r0) w') w = W Try.prog Rf_Right_E 122 (Rf_Right_A Kv) Rf_Right_C [] (retQ Try.prog Try.f12.results Kv) [] (startS [(Value.agg #[(Value.slice p_0_0p p_0_0l p_0_0c), (Value.slice p_0_1p p_0_1l p_0_1c), (Value.slice p_0_2p p_0_2l p_0_2c), (Value.int .i64 p_0_3), (Value.int .i64 p_0_4)])]) w := by kernel_rfl
theorem Rf_Right_e0 (Kv : VW) (N0 : List Value -> World -> Prop) (ρ : Rho) (p_1 : Addr) (i_3 : Int) (w : World) : Rf_Right_b0 p_1 i_3 (fun p_1' i_3' w' => N0 [(Value.pointer (some p_1')), (Value.int .i64 i_3')] w') (fun r0 w' => Kv (Value.bool r0) w') w = goalAt Try.prog Rf_Right_E 122 (Rf_Right_O Kv) 0 (N0 :: ρ) [(Value.pointer (some p_1)), (Value.int .i64 i_3)] w := by kernel_rfl
theorem Rf_Right_q0 (Kv : VW) (ρ : Rho) (vs : List Value) (w : World) : labAt (Rf_Right_O Kv) 0 ρ vs w = Rf_Right_P0 Kv ρ vs w := by kernel_rfl
def Rf_Right_I0 (p_10 : Addr) (I : Int -> World -> Prop) (vs : List Value) (w : World) : Prop :=
  match vs with
  | [.pointer (some p_1), .int .i64 i_3] => (p_1 = p_10 /\ True) /\ I i_3 w
  | _ => False
def Rf_Right_M0 (μ : Int -> World -> Nat) (vs : List Value) (w : World) : Nat :=
  match vs with
  | [.pointer (some _p_1), .int .i64 i_3] => μ i_3 w
  | _ => 0
theorem Rf_Right_h0 (Kv : VW) : holdsAt Try.prog Rf_Right_E 122 (Rf_Right_O Kv) 0 := holdsAt_loop (by kernel_rfl) (fun ρ vs w h => by
  rw [Rf_Right_q0] at h
  unfold Rf_Right_P0 at h
  split at h
  · rename_i ρt p_1 i_3
    obtain ⟨I, μ, h0, hr⟩ := h.out
    refine ⟨Rf_Right_I0 p_1 I, Rf_Right_M0 μ, ⟨⟨rfl, trivial⟩, h0⟩, fun vs w hI => ?_⟩
    unfold Rf_Right_I0 at hI
    split at hI
    · obtain ⟨⟨h0, _⟩, hI⟩ := hI
      cases h0
      rw [← Rf_Right_e0]
      exact hr _ _ hI
    · exact hI.elim
  · exact h.elim)
theorem Rf_Right_e1 (Kv : VW) (N1 : List Value -> World -> Prop) (ρ : Rho) (p_1 : Addr) (i_5 : Int) (w : World) : Rf_Right_b1 p_1 i_5 (fun p_1' i_5' w' => N1 [(Value.pointer (some p_1')), (Value.int .i64 i_5')] w') (fun r0 w' => Kv (Value.bool r0) w') w = goalAt Try.prog Rf_Right_E 122 (Rf_Right_O Kv) 1 (N1 :: ρ) [(Value.pointer (some p_1)), (Value.int .i64 i_5)] w := by kernel_rfl
theorem Rf_Right_q1 (Kv : VW) (ρ : Rho) (vs : List Value) (w : World) : labAt (Rf_Right_O Kv) 1 ρ vs w = Rf_Right_P1 Kv ρ vs w := by kernel_rfl
def Rf_Right_I1 (p_10 : Addr) (I : Int -> World -> Prop) (vs : List Value) (w : World) : Prop :=
  match vs with
  | [.pointer (some p_1), .int .i64 i_5] => (p_1 = p_10 /\ True) /\ I i_5 w
  | _ => False
def Rf_Right_M1 (μ : Int -> World -> Nat) (vs : List Value) (w : World) : Nat :=
  match vs with
  | [.pointer (some _p_1), .int .i64 i_5] => μ i_5 w
  | _ => 0
theorem Rf_Right_h1 (Kv : VW) : holdsAt Try.prog Rf_Right_E 122 (Rf_Right_O Kv) 1 := holdsAt_loop (by kernel_rfl) (fun ρ vs w h => by
  rw [Rf_Right_q1] at h
  unfold Rf_Right_P1 at h
  split at h
  · rename_i ρt p_1 i_5
    obtain ⟨I, μ, h0, hr⟩ := h.out
    refine ⟨Rf_Right_I1 p_1 I, Rf_Right_M1 μ, ⟨⟨rfl, trivial⟩, h0⟩, fun vs w hI => ?_⟩
    unfold Rf_Right_I1 at hI
    split at hI
    · obtain ⟨⟨h0, _⟩, hI⟩ := hI
      cases h0
      rw [← Rf_Right_e1]
      exact hr _ _ hI
    · exact hI.elim
  · exact h.elim)
theorem Rf_Right_e2 (Kv : VW) (N2 N1 : List Value -> World -> Prop) (ρ : Rho) (p_1 : Addr) (i_5 : Int) (d_6 : Addr) (k_7 : Int) (w : World) : Rf_Right_b2 p_1 i_5 d_6 k_7 (fun p_1' i_5' d_6' k_7' w' => N2 [(Value.pointer (some p_1')), (Value.int .i64 i_5'), (Value.pointer (some d_6')), (Value.int .i64 k_7')] w') (fun p_1' i_5' w' => N1 [(Value.pointer (some p_1')), (Value.int .i64 i_5')] w') (fun r0 w' => Kv (Value.bool r0) w') w = goalAt Try.prog Rf_Right_E 122 (Rf_Right_O Kv) 2 (N2 :: N1 :: ρ) [(Value.pointer (some p_1)), (Value.int .i64 i_5), (Value.pointer (some d_6)), (Value.int .i64 k_7)] w := by kernel_rfl
theorem Rf_Right_q2 (Kv : VW) (ρ : Rho) (vs : List Value) (w : World) : labAt (Rf_Right_O Kv) 2 ρ vs w = Rf_Right_P2 Kv ρ vs w := by kernel_rfl
def Rf_Right_I2 (p_10 : Addr) (i_50 : Int) (d_60 : Addr) (I : Int -> World -> Prop) (vs : List Value) (w : World) : Prop :=
  match vs with
  | [.pointer (some p_1), .int .i64 i_5, .pointer (some d_6), .int .i64 k_7] => (p_1 = p_10 /\ i_5 = i_50 /\ d_6 = d_60 /\ True) /\ I k_7 w
  | _ => False
def Rf_Right_M2 (μ : Int -> World -> Nat) (vs : List Value) (w : World) : Nat :=
  match vs with
  | [.pointer (some _p_1), .int .i64 _i_5, .pointer (some _d_6), .int .i64 k_7] => μ k_7 w
  | _ => 0
theorem Rf_Right_h2 (Kv : VW) : holdsAt Try.prog Rf_Right_E 122 (Rf_Right_O Kv) 2 := holdsAt_loop (by kernel_rfl) (fun ρ vs w h => by
  rw [Rf_Right_q2] at h
  unfold Rf_Right_P2 at h
  split at h
  · rename_i N1 ρt p_1 i_5 d_6 k_7
    obtain ⟨I, μ, h0, hr⟩ := h.out
    refine ⟨Rf_Right_I2 p_1 i_5 d_6 I, Rf_Right_M2 μ, ⟨⟨rfl, rfl, rfl, trivial⟩, h0⟩, fun vs w hI => ?_⟩
    unfold Rf_Right_I2 at hI
    split at hI
    · obtain ⟨⟨h0, h1, h2, _⟩, hI⟩ := hI
      cases h0; cases h1; cases h2
      rw [← Rf_Right_e2]
      exact hr _ _ hI
    · exact hI.elim
  · exact h.elim)
theorem Rf_Right_n (Kv : VW) : obAt (Rf_Right_O Kv) 3 = none := by kernel_rfl
theorem Rf_Right_h (Kv : VW) : ∀ k, holdsAt Try.prog Rf_Right_E 122 (Rf_Right_O Kv) k := fun k => match k with
  | 0 => Rf_Right_h0 Kv
  | 1 => Rf_Right_h1 Kv
  | 2 => Rf_Right_h2 Kv
  | _k + 3 => holdsAt_ge (Rf_Right_n Kv) (Nat.le_add_left _ _)
theorem Rf_Right_ok : Sound Try.prog 12 Rf_Right_S := ⟨Try.call12, fun vs w Kv h => by
  unfold Rf_Right_S at h
  split at h
  · have h := h.out
    rw [Rf_Right_e] at h
    exact calls_sound (Γ := Rf_Right_E) progMixed ⟨.inl Rf_different_ok, .inl Rf_within_ok, .inl Rf_contains_ok, trivial⟩ Try.func12 (code := Rf_Right_C) (by kernel_rfl) (Rf_Right_A Kv) Kv (holds_all (Rf_Right_h Kv)) (Nat.le_of_ble_eq_true (by kernel_rfl)) h
  · exact h.elim⟩
end Go.Proofs.Ytmkjcheafdionaa
