/- The bodies' formulas, by program. -/
import Derived.Test.YtmkjcheafdionaaProg
import Derived.KernelRfl
import Derived.Test.YtmkjcheafdionaaPwX
import Derived.Test.YtmkjcheafdionaaCG0
import Derived.Test.YtmkjcheafdionaaCG1
import Derived.Test.YtmkjcheafdionaaCG2
import Derived.Test.YtmkjcheafdionaaCG3
import Derived.Test.YtmkjcheafdionaaCG4
set_option maxRecDepth 20000
namespace Go.Proofs.Ytmkjcheafdionaa
open Go Pw
local notation "vI" => Value.int IntKind.i64
local notation "vS" => Value.slice
local notation "vP" => Value.pointer
local notation "rR" => RA.run
local notation "rK" => RA.skp
local notation "aQ" => A.seq
/-! probityref21_Ints -/
def probityref21_Ints_b0 (a_0 : Sl) (b_1 : Sl) (i_5 : Int) (N0 : Sl → Sl → Int → World → Prop)  (K : Bool → World → Prop) (w : World) : Prop :=
  cnd (decide (i_5 < (a_0.l : Int)))
    (let w1 : World := w.drew
  nz a_0.p fun a2 => (0 ≤ i_5 ∧ i_5 < (a_0.l : Nat)) ∧ ∃ x3 : Int, w1.cell? (a2.add (i_5.toNat * 1)) = some (vI x3) ∧ nz b_1.p fun a4 => (0 ≤ i_5 ∧ i_5 < (b_1.l : Nat)) ∧ ∃ x5 : Int, w1.cell? (a4.add (i_5.toNat * 1)) = some (vI x5) ∧ cnd (x3 != x5)
    (K false w1)
    (inR .i64 (i_5 + (1 : Int)) ∧ N0 a_0 b_1 (i_5 + (1 : Int)) w1))
    (K true w)
def probityref21_Ints_l0d (a_0 : Sl) (b_1 : Sl) (i_5 : Int)  (K : Bool → World → Prop) (w : World) : Prop :=
  ∃ (I : Int → World → Prop) (μ : Int → World → Nat), I i_5 w ∧ ∀ (i_51 : Int) (w1 : World), I i_51 w1 →
    probityref21_Ints_b0 a_0 b_1 i_51 (fun (a_0' : Sl) (b_1' : Sl) (i_5' : Int) (w' : World) => ((a_0' = a_0 ∧ b_1' = b_1 ∧ True) ∧ I i_5' w') ∧ μ i_5' w' < μ i_51 w1)  K w1
structure probityref21_Ints_l0 (a_0 : Sl) (b_1 : Sl) (i_5 : Int)  (K : Bool → World → Prop) (w : World) : Prop where
  out : probityref21_Ints_l0d a_0 b_1 i_5 K w
def probityref21_Ints_sd (a_0 : Sl) (b_1 : Sl) (K : Bool → World → Prop) (w : World) : Prop :=
  cnd ((a_0.l : Int) != (b_1.l : Int))
    (K false w)
    (probityref21_Ints_l0 a_0 b_1 (0 : Int) K w)
structure probityref21_Ints_sh (a_0 : Sl) (b_1 : Sl) (K : Bool → World → Prop) (w : World) : Prop where
  out : probityref21_Ints_sd a_0 b_1 K w
def probityref21_Ints_P0 (Kv : VW) (ρ : Rho) (vs : List Value) (w : World) : Prop :=
  match ρ, vs with
  | _, [.slice a_0p a_0l a_0c, .slice b_1p b_1l b_1c, .int .i64 i_5] => probityref21_Ints_l0 ⟨a_0p, a_0l, a_0c⟩ ⟨b_1p, b_1l, b_1c⟩ i_5  (fun (r0 : Bool) (w' : World) => Kv (Value.bool r0) w') w
  | _, _ => False
noncomputable def probityref21_Ints_S : Pw.Spec := fun vs w Kv =>
  match vs with
  | [.slice a_0p a_0l a_0c, .slice b_1p b_1l b_1c] => probityref21_Ints_sh ⟨a_0p, a_0l, a_0c⟩ ⟨b_1p, b_1l, b_1c⟩ (fun (r0 : Bool) (w' : World) => Kv (Value.bool r0) w') w
  | _ => False
noncomputable def probityref21_Ints_E : Pw.Env := []
noncomputable def probityref21_Ints_C : Code := (Try.f33.body).getD .skip
noncomputable def probityref21_Ints_A (Kv : VW) : Pw.A :=
  (aQ (A.reg (rR RA.done))
   (aQ (aQ (A.reg (rR (rR (rR (rR (rR RA.done))))))
   (A.cond (aQ (A.reg (rR RA.done))
   A.leaf)
   A.leaf))
   (aQ (aQ (A.reg (rR RA.done))
   (A.blk (A.loop [0, 1, 5] (probityref21_Ints_P0 Kv) (aQ (aQ (A.reg (rR (rR (rR (rR RA.done)))))
   (A.cond A.leaf
   A.leaf))
   (aQ (A.blk (aQ (A.drp (DA.pur 0 (DA.pur 1 (DA.pur 2 (DA.pur 3 (DA.pur 4 (DA.pur 5 (DA.pur 6 (DA.pur 7 (DA.pur 8 DA.done))))))))))
   (A.cond (aQ (A.reg (rR RA.done))
   A.leaf)
   A.leaf)))
   (A.reg (rR (rR (rR RA.done)))))))))
   (aQ (A.reg (rR RA.done))
   A.leaf))))
noncomputable def probityref21_Ints_O (Kv : VW) : List Ob := (obs Try.prog probityref21_Ints_E 26 (probityref21_Ints_A Kv) probityref21_Ints_C (fun _ => retQ Try.prog Try.f33.results Kv))
theorem probityref21_Ints_e (Kv : VW) (a_0p : Option Addr) (a_0l a_0c : Nat) (b_1p : Option Addr) (b_1l b_1c : Nat) (w : World) : probityref21_Ints_sd ⟨a_0p, a_0l, a_0c⟩ ⟨b_1p, b_1l, b_1c⟩ (fun (r0 : Bool) (w' : World) => Kv (Value.bool r0) w') w = W Try.prog probityref21_Ints_E 26 (probityref21_Ints_A Kv) probityref21_Ints_C [] (retQ Try.prog Try.f33.results Kv) [] (startS [(vS a_0p a_0l a_0c), (vS b_1p b_1l b_1c)]) w := by kernel_rfl
theorem probityref21_Ints_e0 (Kv : VW) (N0 : List Value → World → Prop) (ρ : Rho) (a_0p : Option Addr) (a_0l a_0c : Nat) (b_1p : Option Addr) (b_1l b_1c : Nat) (i_5 : Int) (w : World) : probityref21_Ints_b0 ⟨a_0p, a_0l, a_0c⟩ ⟨b_1p, b_1l, b_1c⟩ i_5 (fun (a_0' : Sl) (b_1' : Sl) (i_5' : Int) (w' : World) => N0 [(vS a_0'.p a_0'.l a_0'.c), (vS b_1'.p b_1'.l b_1'.c), (vI i_5')] w')  (fun (r0 : Bool) (w' : World) => Kv (Value.bool r0) w') w = goalAt Try.prog probityref21_Ints_E 26 (probityref21_Ints_O Kv) 0 (N0 :: ρ) [(vS a_0p a_0l a_0c), (vS b_1p b_1l b_1c), (vI i_5)] w := by kernel_rfl
theorem probityref21_Ints_q0 (Kv : VW) (ρ : Rho) (vs : List Value) (w : World) : labAt (probityref21_Ints_O Kv) 0 ρ vs w = probityref21_Ints_P0 Kv ρ vs w := by kernel_rfl
def probityref21_Ints_I0 (a_00 : Sl) (b_10 : Sl) (I : Int → World → Prop) (vs : List Value) (w : World) : Prop :=
  match vs with
  | [.slice a_0p a_0l a_0c, .slice b_1p b_1l b_1c, .int .i64 i_5] => (⟨a_0p, a_0l, a_0c⟩ = a_00 ∧ ⟨b_1p, b_1l, b_1c⟩ = b_10 ∧ True) ∧ I i_5 w
  | _ => False
def probityref21_Ints_M0 (μ : Int → World → Nat) (vs : List Value) (w : World) : Nat :=
  match vs with
  | [.slice _a_0p _a_0l _a_0c, .slice _b_1p _b_1l _b_1c, .int .i64 i_5] => μ i_5 w
  | _ => 0
theorem probityref21_Ints_h0 (Kv : VW) : holdsAt Try.prog probityref21_Ints_E 26 (probityref21_Ints_O Kv) 0 := holdsAt_loop (by kernel_rfl) (fun ρ vs w h => by
  rw [probityref21_Ints_q0] at h
  unfold probityref21_Ints_P0 at h
  split at h
  · rename_i ρt a_0p a_0l a_0c b_1p b_1l b_1c i_5
    obtain ⟨I, μ, h0, hr⟩ := h.out
    refine ⟨probityref21_Ints_I0 ⟨a_0p, a_0l, a_0c⟩ ⟨b_1p, b_1l, b_1c⟩ I, probityref21_Ints_M0 μ, ⟨⟨rfl, rfl, trivial⟩, h0⟩, fun vs w hI => ?_⟩
    unfold probityref21_Ints_I0 at hI
    split at hI
    · obtain ⟨⟨h0, h1, _⟩, hI⟩ := hI
      cases h0; cases h1
      rw [← probityref21_Ints_e0]
      exact hr _ _ hI
    · exact hI.elim
  · exact h.elim)
theorem probityref21_Ints_n (Kv : VW) : obAt (probityref21_Ints_O Kv) 1 = none := by kernel_rfl
theorem probityref21_Ints_h (Kv : VW) : ∀ k, holdsAt Try.prog probityref21_Ints_E 26 (probityref21_Ints_O Kv) k := fun k => match k with
  | 0 => probityref21_Ints_h0 Kv
  | _k + 1 => holdsAt_ge (probityref21_Ints_n Kv) (Nat.le_add_left _ _)
theorem probityref21_Ints_ok : Sound Try.prog 33 probityref21_Ints_S := ⟨Try.call33, fun vs w Kv h => by
  unfold probityref21_Ints_S at h
  split at h
  · have h := h.out
    rw [probityref21_Ints_e] at h
    exact calls_sound (Γ := probityref21_Ints_E) progMixed trivial Try.func33 (code := probityref21_Ints_C) (by kernel_rfl) (probityref21_Ints_A Kv) Kv (holds_all (probityref21_Ints_h Kv)) (Nat.le_of_ble_eq_true (by kernel_rfl)) h
  · exact h.elim⟩
/-! probityref21_numbers_next -/
def probityref21_numbers_next_sd (m_0 : Option Addr) (n_1 : Int) (K : Int → World → Prop) (w : World) : Prop :=
  let w1 : World := w.drew
  nz m_0 fun a2 => ∃ x3 : Int, w1.cell? (a2.add 1) = some (vI x3) ∧ nz m_0 fun a4 => ∃ x5 : Sl, w1.cell? a4 = some (vS x5.p x5.l x5.c) ∧ cnd (decide (x3 ≥ (x5.l : Int)))
    (K (0 : Int) w1)
    (nz m_0 fun a6 => ∃ x7 : Int, w1.cell? (a6.add 1) = some (vI x7) ∧ inR .i64 (x7 + (1 : Int)) ∧ nz m_0 fun a8 => wrOk w1 (a8.add 1) ∧ 
  (let w9 : World := w1.setCell (a8.add 1) (vI (x7 + (1 : Int)))
  let w10 : World := w9.drew
  ∃ S11 : World → Prop, S11 w10 ∧ nz m_0 fun a12 => ∃ x13 : Sl, (∀ w' : World, S11 w' → w'.cell? a12 = some (vS x13.p x13.l x13.c)) ∧ nz m_0 fun a14 => ∃ x15 : Int, (∀ w' : World, S11 w' → w'.cell? (a14.add 1) = some (vI x15)) ∧ inR .i64 (x15 - (1 : Int)) ∧ nz x13.p fun a16 => (0 ≤ (x15 - (1 : Int)) ∧ (x15 - (1 : Int)) < (x13.l : Nat)) ∧ ∃ x17 : Int, (∀ w' : World, S11 w' → w'.cell? (a16.add ((x15 - (1 : Int)).toNat * 1)) = some (vI x17)) ∧ probityref01_Mod_sh x17 n_1 (fun (r19 : Int) (w18 : World) => S11 w18 ∧ K r19 w18) w10))
structure probityref21_numbers_next_sh (m_0 : Option Addr) (n_1 : Int) (K : Int → World → Prop) (w : World) : Prop where
  out : probityref21_numbers_next_sd m_0 n_1 K w
noncomputable def probityref21_numbers_next_S : Pw.Spec := fun vs w Kv =>
  match vs with
  | [.pointer m_0, .int .i64 n_1] => probityref21_numbers_next_sh m_0 n_1 (fun (r0 : Int) (w' : World) => Kv (vI r0) w') w
  | _ => False
noncomputable def probityref21_numbers_next_E : Pw.Env := [(13, probityref01_Mod_S)]
noncomputable def probityref21_numbers_next_C : Code := (Try.f19.body).getD .skip
noncomputable def probityref21_numbers_next_A (_Kv : VW) : Pw.A :=
  (aQ (A.reg (rR RA.done))
   (aQ (aQ (A.drp (DA.pur 0 (DA.pur 1 (DA.pur 2 (DA.pur 3 (DA.pur 4 (DA.pur 5 (DA.pur 6 (DA.pur 7 (DA.pur 8 (DA.pur 9 DA.done)))))))))))
   (A.cond (aQ (A.reg (rR RA.done))
   A.leaf)
   A.leaf))
   (aQ (A.reg (rR (rR (rR (rR (rR (rR (rR (rR RA.done)))))))))
   (aQ (A.drw (DA.pur 0 (DA.pur 1 (DA.pur 2 (DA.pur 3 (DA.pur 4 (DA.pur 5 (DA.pur 6 (DA.pur 7 (DA.pur 8 (DA.pur 9 (DA.pur 10 (DA.pur 11 (DA.eff 12 (DA.pur 13 DA.done)))))))))))))))
   A.leaf))))
noncomputable def probityref21_numbers_next_O (Kv : VW) : List Ob := (obs Try.prog probityref21_numbers_next_E 35 (probityref21_numbers_next_A Kv) probityref21_numbers_next_C (fun _ => retQ Try.prog Try.f19.results Kv))
theorem probityref21_numbers_next_e (Kv : VW) (m_0 : Option Addr) (n_1 : Int) (w : World) : probityref21_numbers_next_sd m_0 n_1 (fun (r0 : Int) (w' : World) => Kv (vI r0) w') w = W Try.prog probityref21_numbers_next_E 35 (probityref21_numbers_next_A Kv) probityref21_numbers_next_C [] (retQ Try.prog Try.f19.results Kv) [] (startS [(vP m_0), (vI n_1)]) w := by kernel_rfl
theorem probityref21_numbers_next_n (Kv : VW) : obAt (probityref21_numbers_next_O Kv) 0 = none := by kernel_rfl
theorem probityref21_numbers_next_h (Kv : VW) : ∀ k, holdsAt Try.prog probityref21_numbers_next_E 35 (probityref21_numbers_next_O Kv) k := fun _ => holdsAt_ge (probityref21_numbers_next_n Kv) (Nat.zero_le _)
theorem probityref21_numbers_next_ok : Sound Try.prog 19 probityref21_numbers_next_S := ⟨Try.call19, fun vs w Kv h => by
  unfold probityref21_numbers_next_S at h
  split at h
  · have h := h.out
    rw [probityref21_numbers_next_e] at h
    exact calls_sound (Γ := probityref21_numbers_next_E) progMixed ⟨.inl probityref01_Mod_ok, trivial⟩ Try.func19 (code := probityref21_numbers_next_C) (by kernel_rfl) (probityref21_numbers_next_A Kv) Kv (holds_all (probityref21_numbers_next_h Kv)) (Nat.le_of_ble_eq_true (by kernel_rfl)) h
  · exact h.elim⟩
/-! probityref21_Made -/
def probityref21_Made_b3 (t_2 : Addr) (m_3 : Addr) (p_4 : Addr) (lots_5 : Int) (deals_9 : Int) (i_10 : Int) (d_11 : Addr) (set_12 : Int) (k_13 : Int) (N3 : Addr → Addr → Addr → Int → Int → Int → Addr → Int → Int → World → Prop) (N2 : Addr → Addr → Addr → Int → Int → Int → World → Prop) (_K : Sl → Sl → Sl → Int → Int → World → Prop) (w : World) : Prop :=
  cnd (decide (k_13 < lots_5))
    (0 ≤ k_13 ∧ cnd ((IntKind.wrap .i64 (((BitVec.ofInt (IntKind.bits .i64) (Int.fdiv set_12 (2 ^ (min k_13.toNat (IntKind.bits .i64)))) &&& BitVec.ofInt (IntKind.bits .i64) (1 : Int))).toNat : Int)) == (1 : Int))
    (let w50 : World := w.drew
  ∃ S51 : World → Prop, S51 w50 ∧ ∃ x52 : Sl, (∀ w' : World, S51 w' → w'.cell? (d_11.add 1) = some (vS x52.p x52.l x52.c)) ∧ ∃ x53 : Sl, (∀ w' : World, S51 w' → w'.cell? p_4 = some (vS x53.p x53.l x53.c)) ∧ nz x53.p fun a54 => (0 ≤ k_13 ∧ k_13 < (x53.l : Nat)) ∧ ∃ x55 : Int, (∀ w' : World, S51 w' → w'.cell? (a54.add (k_13.toNat * 1)) = some (vI x55)) ∧ let w56 : World := w50.alloc (Obj.cells #[(vI x55)] 3)
  S51 w56 ∧ apS 1 8 [(vI (0 : Int))] 3 x52 (Sl.mk (some (Addr.mk w50.heap.size 0 none)) 1 1) w56 fun (s57 : Sl) (w58 : World) => S51 w58 ∧ wrOk w58 (d_11.add 1) ∧ 
  (let w59 : World := w58.setCell (d_11.add 1) (vS s57.p s57.l s57.c)
  inR .i64 (k_13 + (1 : Int)) ∧ N3 t_2 m_3 p_4 lots_5 deals_9 i_10 d_11 set_12 (k_13 + (1 : Int)) w59))
    (inR .i64 (k_13 + (1 : Int)) ∧ N3 t_2 m_3 p_4 lots_5 deals_9 i_10 d_11 set_12 (k_13 + (1 : Int)) w))
    (∃ x60 : Sl, w.cell? (p_4.add 2) = some (vS x60.p x60.l x60.c) ∧ ∃ x61 : Int, w.cell? d_11 = some (vI x61) ∧ ∃ x62 : Sl, w.cell? (d_11.add 1) = some (vS x62.p x62.l x62.c) ∧ ∃ x63 : Int, w.cell? (d_11.add 2) = some (vI x63) ∧ let w64 : World := w.alloc (Obj.cells #[(vI x61), (vS x62.p x62.l x62.c), (vI x63)] 58)
  apS 3 40 [(vI (0 : Int)), (vS none 0 0), (vI (0 : Int))] 58 x60 (Sl.mk (some (Addr.mk w.heap.size 0 none)) 1 1) w64 fun (s65 : Sl) (w66 : World) => wrOk w66 (p_4.add 2) ∧ 
  (let w67 : World := w66.setCell (p_4.add 2) (vS s65.p s65.l s65.c)
  inR .i64 (i_10 + (1 : Int)) ∧ N2 t_2 m_3 p_4 lots_5 deals_9 (i_10 + (1 : Int)) w67))
def probityref21_Made_l3d (t_2 : Addr) (m_3 : Addr) (p_4 : Addr) (lots_5 : Int) (deals_9 : Int) (i_10 : Int) (d_11 : Addr) (set_12 : Int) (k_13 : Int) (N2 : Addr → Addr → Addr → Int → Int → Int → World → Prop) (K : Sl → Sl → Sl → Int → Int → World → Prop) (w : World) : Prop :=
  ∃ (I : Int → World → Prop) (μ : Int → World → Nat), I k_13 w ∧ ∀ (k_131 : Int) (w1 : World), I k_131 w1 →
    probityref21_Made_b3 t_2 m_3 p_4 lots_5 deals_9 i_10 d_11 set_12 k_131 (fun (t_2' : Addr) (m_3' : Addr) (p_4' : Addr) (lots_5' : Int) (deals_9' : Int) (i_10' : Int) (d_11' : Addr) (set_12' : Int) (k_13' : Int) (w' : World) => ((t_2' = t_2 ∧ m_3' = m_3 ∧ p_4' = p_4 ∧ lots_5' = lots_5 ∧ deals_9' = deals_9 ∧ i_10' = i_10 ∧ d_11' = d_11 ∧ set_12' = set_12 ∧ True) ∧ I k_13' w') ∧ μ k_13' w' < μ k_131 w1) N2 K w1
structure probityref21_Made_l3 (t_2 : Addr) (m_3 : Addr) (p_4 : Addr) (lots_5 : Int) (deals_9 : Int) (i_10 : Int) (d_11 : Addr) (set_12 : Int) (k_13 : Int) (N2 : Addr → Addr → Addr → Int → Int → Int → World → Prop) (K : Sl → Sl → Sl → Int → Int → World → Prop) (w : World) : Prop where
  out : probityref21_Made_l3d t_2 m_3 p_4 lots_5 deals_9 i_10 d_11 set_12 k_13 N2 K w
def probityref21_Made_b2 (t_2 : Addr) (m_3 : Addr) (p_4 : Addr) (lots_5 : Int) (deals_9 : Int) (i_10 : Int) (N2 : Addr → Addr → Addr → Int → Int → Int → World → Prop)  (K : Sl → Sl → Sl → Int → Int → World → Prop) (w : World) : Prop :=
  cnd (decide (i_10 < deals_9))
    (probityref21_numbers_next_sh (some m_3) (4 : Int) (fun (r43 : Int) (w42 : World) => inR .i64 ((1 : Int) + r43) ∧ probityref21_numbers_next_sh (some m_3) (6 : Int) (fun (r45 : Int) (w44 : World) => let w46 : World := w44.alloc (Obj.cells #[(vI (0 : Int)), (vS none 0 0), (vI (0 : Int))] 58)
  stN w46 (Addr.mk w44.heap.size 0 none) [(vI ((1 : Int) + r43)), (vS none 0 0), (vI r45)] fun (w47 : World) => 0 ≤ lots_5 ∧ inR .i64 ((IntKind.wrap .i64 ((1 : Int) * 2 ^ (min lots_5.toNat (IntKind.bits .i64)))) - (1 : Int)) ∧ probityref21_numbers_next_sh (some m_3) ((IntKind.wrap .i64 ((1 : Int) * 2 ^ (min lots_5.toNat (IntKind.bits .i64)))) - (1 : Int)) (fun (r49 : Int) (w48 : World) => inR .i64 ((1 : Int) + r49) ∧ probityref21_Made_l3 t_2 m_3 p_4 lots_5 deals_9 i_10 (Addr.mk w44.heap.size 0 none) ((1 : Int) + r49) (0 : Int) N2 K w48) w47) w42) w)
    (∃ x68 : Sl, w.cell? p_4 = some (vS x68.p x68.l x68.c) ∧ ∃ x69 : Sl, w.cell? (p_4.add 1) = some (vS x69.p x69.l x69.c) ∧ ∃ x70 : Sl, w.cell? (p_4.add 2) = some (vS x70.p x70.l x70.c) ∧ ∃ x71 : Int, w.cell? (p_4.add 3) = some (vI x71) ∧ ∃ x72 : Int, w.cell? (p_4.add 4) = some (vI x72) ∧ stN w t_2 [(vS x68.p x68.l x68.c), (vS x69.p x69.l x69.c), (vS x70.p x70.l x70.c), (vI x71), (vI x72)] fun (w73 : World) => ∃ x74 : Sl, w73.cell? t_2 = some (vS x74.p x74.l x74.c) ∧ ∃ x75 : Sl, w73.cell? (t_2.add 1) = some (vS x75.p x75.l x75.c) ∧ ∃ x76 : Sl, w73.cell? (t_2.add 2) = some (vS x76.p x76.l x76.c) ∧ ∃ x77 : Int, w73.cell? (t_2.add 3) = some (vI x77) ∧ ∃ x78 : Int, w73.cell? (t_2.add 4) = some (vI x78) ∧ K x74 x75 x76 x77 x78 w73)
def probityref21_Made_l2d (t_2 : Addr) (m_3 : Addr) (p_4 : Addr) (lots_5 : Int) (deals_9 : Int) (i_10 : Int)  (K : Sl → Sl → Sl → Int → Int → World → Prop) (w : World) : Prop :=
  ∃ (I : Int → World → Prop) (μ : Int → World → Nat), I i_10 w ∧ ∀ (i_101 : Int) (w1 : World), I i_101 w1 →
    probityref21_Made_b2 t_2 m_3 p_4 lots_5 deals_9 i_101 (fun (t_2' : Addr) (m_3' : Addr) (p_4' : Addr) (lots_5' : Int) (deals_9' : Int) (i_10' : Int) (w' : World) => ((t_2' = t_2 ∧ m_3' = m_3 ∧ p_4' = p_4 ∧ lots_5' = lots_5 ∧ deals_9' = deals_9 ∧ True) ∧ I i_10' w') ∧ μ i_10' w' < μ i_101 w1)  K w1
structure probityref21_Made_l2 (t_2 : Addr) (m_3 : Addr) (p_4 : Addr) (lots_5 : Int) (deals_9 : Int) (i_10 : Int)  (K : Sl → Sl → Sl → Int → Int → World → Prop) (w : World) : Prop where
  out : probityref21_Made_l2d t_2 m_3 p_4 lots_5 deals_9 i_10 K w
def probityref21_Made_b1 (t_2 : Addr) (m_3 : Addr) (p_4 : Addr) (lots_5 : Int) (choices_7 : Int) (i_8 : Int) (N1 : Addr → Addr → Addr → Int → Int → Int → World → Prop)  (K : Sl → Sl → Sl → Int → Int → World → Prop) (w : World) : Prop :=
  cnd (decide (i_8 < choices_7))
    (let w22 : World := w.drew
  ∃ S23 : World → Prop, S23 w22 ∧ ∃ x24 : Sl, (∀ w' : World, S23 w' → w'.cell? (p_4.add 1) = some (vS x24.p x24.l x24.c)) ∧ ∃ x25 : Sl, (∀ w' : World, S23 w' → w'.cell? p_4 = some (vS x25.p x25.l x25.c)) ∧ probityref21_numbers_next_sh (some m_3) lots_5 (fun (r27 : Int) (w26 : World) => S23 w26 ∧ nz x25.p fun a28 => (0 ≤ r27 ∧ r27 < (x25.l : Nat)) ∧ ∃ x29 : Int, (∀ w' : World, S23 w' → w'.cell? (a28.add (r27.toNat * 1)) = some (vI x29)) ∧ probityref21_numbers_next_sh (some m_3) (4 : Int) (fun (r31 : Int) (w30 : World) => S23 w30 ∧ inR .i64 ((1 : Int) + r31) ∧ probityref21_numbers_next_sh (some m_3) (12 : Int) (fun (r33 : Int) (w32 : World) => S23 w32 ∧ probityref21_numbers_next_sh (some m_3) (6 : Int) (fun (r35 : Int) (w34 : World) => S23 w34 ∧ let w36 : World := w34.alloc (Obj.cells #[(vI x29), (vI ((1 : Int) + r31)), (vI r33), (vI r35)] 56)
  S23 w36 ∧ apS 4 32 [(vI (0 : Int)), (vI (0 : Int)), (vI (0 : Int)), (vI (0 : Int))] 56 x24 (Sl.mk (some (Addr.mk w34.heap.size 0 none)) 1 1) w36 fun (s37 : Sl) (w38 : World) => S23 w38 ∧ wrOk w38 (p_4.add 1) ∧ 
  (let w39 : World := w38.setCell (p_4.add 1) (vS s37.p s37.l s37.c)
  inR .i64 (i_8 + (1 : Int)) ∧ N1 t_2 m_3 p_4 lots_5 choices_7 (i_8 + (1 : Int)) w39)) w32) w30) w26) w22)
    (probityref21_numbers_next_sh (some m_3) (4 : Int) (fun (r41 : Int) (w40 : World) => probityref21_Made_l2 t_2 m_3 p_4 lots_5 r41 (0 : Int) K w40) w)
def probityref21_Made_l1d (t_2 : Addr) (m_3 : Addr) (p_4 : Addr) (lots_5 : Int) (choices_7 : Int) (i_8 : Int)  (K : Sl → Sl → Sl → Int → Int → World → Prop) (w : World) : Prop :=
  ∃ (I : Int → World → Prop) (μ : Int → World → Nat), I i_8 w ∧ ∀ (i_81 : Int) (w1 : World), I i_81 w1 →
    probityref21_Made_b1 t_2 m_3 p_4 lots_5 choices_7 i_81 (fun (t_2' : Addr) (m_3' : Addr) (p_4' : Addr) (lots_5' : Int) (choices_7' : Int) (i_8' : Int) (w' : World) => ((t_2' = t_2 ∧ m_3' = m_3 ∧ p_4' = p_4 ∧ lots_5' = lots_5 ∧ choices_7' = choices_7 ∧ True) ∧ I i_8' w') ∧ μ i_8' w' < μ i_81 w1)  K w1
structure probityref21_Made_l1 (t_2 : Addr) (m_3 : Addr) (p_4 : Addr) (lots_5 : Int) (choices_7 : Int) (i_8 : Int)  (K : Sl → Sl → Sl → Int → Int → World → Prop) (w : World) : Prop where
  out : probityref21_Made_l1d t_2 m_3 p_4 lots_5 choices_7 i_8 K w
def probityref21_Made_b0 (t_2 : Addr) (m_3 : Addr) (p_4 : Addr) (lots_5 : Int) (i_6 : Int) (N0 : Addr → Addr → Addr → Int → Int → World → Prop)  (K : Sl → Sl → Sl → Int → Int → World → Prop) (w : World) : Prop :=
  cnd (decide (i_6 < lots_5))
    (let w11 : World := w.drew
  ∃ S12 : World → Prop, S12 w11 ∧ ∃ x13 : Sl, (∀ w' : World, S12 w' → w'.cell? p_4 = some (vS x13.p x13.l x13.c)) ∧ inR .i64 ((3 : Int) * i_6) ∧ inR .i64 ((10 : Int) + ((3 : Int) * i_6)) ∧ probityref21_numbers_next_sh (some m_3) (2 : Int) (fun (r15 : Int) (w14 : World) => S12 w14 ∧ inR .i64 ((2 : Int) * r15) ∧ inR .i64 (((10 : Int) + ((3 : Int) * i_6)) - ((2 : Int) * r15)) ∧ let w16 : World := w14.alloc (Obj.cells #[(vI (((10 : Int) + ((3 : Int) * i_6)) - ((2 : Int) * r15)))] 3)
  S12 w16 ∧ apS 1 8 [(vI (0 : Int))] 3 x13 (Sl.mk (some (Addr.mk w14.heap.size 0 none)) 1 1) w16 fun (s17 : Sl) (w18 : World) => wrOk w18 p_4 ∧ 
  (let w19 : World := w18.setCell p_4 (vS s17.p s17.l s17.c)
  inR .i64 (i_6 + (1 : Int)) ∧ N0 t_2 m_3 p_4 lots_5 (i_6 + (1 : Int)) w19)) w11)
    (probityref21_numbers_next_sh (some m_3) (13 : Int) (fun (r21 : Int) (w20 : World) => probityref21_Made_l1 t_2 m_3 p_4 lots_5 r21 (0 : Int) K w20) w)
def probityref21_Made_l0d (t_2 : Addr) (m_3 : Addr) (p_4 : Addr) (lots_5 : Int) (i_6 : Int)  (K : Sl → Sl → Sl → Int → Int → World → Prop) (w : World) : Prop :=
  ∃ (I : Int → World → Prop) (μ : Int → World → Nat), I i_6 w ∧ ∀ (i_61 : Int) (w1 : World), I i_61 w1 →
    probityref21_Made_b0 t_2 m_3 p_4 lots_5 i_61 (fun (t_2' : Addr) (m_3' : Addr) (p_4' : Addr) (lots_5' : Int) (i_6' : Int) (w' : World) => ((t_2' = t_2 ∧ m_3' = m_3 ∧ p_4' = p_4 ∧ lots_5' = lots_5 ∧ True) ∧ I i_6' w') ∧ μ i_6' w' < μ i_61 w1)  K w1
structure probityref21_Made_l0 (t_2 : Addr) (m_3 : Addr) (p_4 : Addr) (lots_5 : Int) (i_6 : Int)  (K : Sl → Sl → Sl → Int → Int → World → Prop) (w : World) : Prop where
  out : probityref21_Made_l0d t_2 m_3 p_4 lots_5 i_6 K w
def probityref21_Made_sd (l_0 : Sl) (K : Sl → Sl → Sl → Int → Int → World → Prop) (w : World) : Prop :=
  let w1 : World := w.alloc (Obj.cells #[(vS none 0 0), (vS none 0 0), (vS none 0 0), (vI (0 : Int)), (vI (0 : Int))] 28)
  let w2 : World := w1.alloc (Obj.cells #[(vS l_0.p l_0.l l_0.c), (vI (0 : Int))] 53)
  probityref21_numbers_next_sh (some (Addr.mk w1.heap.size 0 none)) (4 : Int) (fun (r4 : Int) (w3 : World) => probityref21_numbers_next_sh (some (Addr.mk w1.heap.size 0 none)) (30 : Int) (fun (r6 : Int) (w5 : World) => let w7 : World := w5.alloc (Obj.cells #[(vS none 0 0), (vS none 0 0), (vS none 0 0), (vI (0 : Int)), (vI (0 : Int))] 28)
  stN w7 (Addr.mk w5.heap.size 0 none) [(vS none 0 0), (vS none 0 0), (vS none 0 0), (vI r4), (vI r6)] fun (w8 : World) => probityref21_numbers_next_sh (some (Addr.mk w1.heap.size 0 none)) (4 : Int) (fun (r10 : Int) (w9 : World) => inR .i64 ((1 : Int) + r10) ∧ probityref21_Made_l0 (Addr.mk w.heap.size 0 none) (Addr.mk w1.heap.size 0 none) (Addr.mk w5.heap.size 0 none) ((1 : Int) + r10) (0 : Int) K w9) w8) w3) w2
structure probityref21_Made_sh (l_0 : Sl) (K : Sl → Sl → Sl → Int → Int → World → Prop) (w : World) : Prop where
  out : probityref21_Made_sd l_0 K w
def probityref21_Made_P0 (Kv : VW) (ρ : Rho) (vs : List Value) (w : World) : Prop :=
  match ρ, vs with
  | _, [.pointer (some t_2), .pointer (some m_3), .pointer (some p_4), .int .i64 lots_5, .int .i64 i_6] => probityref21_Made_l0 t_2 m_3 p_4 lots_5 i_6  (fun (r0_0 : Sl) (r0_1 : Sl) (r0_2 : Sl) (r0_3 : Int) (r0_4 : Int) (w' : World) => Kv (Value.agg #[(vS r0_0.p r0_0.l r0_0.c), (vS r0_1.p r0_1.l r0_1.c), (vS r0_2.p r0_2.l r0_2.c), (vI r0_3), (vI r0_4)]) w') w
  | _, _ => False
def probityref21_Made_P1 (Kv : VW) (ρ : Rho) (vs : List Value) (w : World) : Prop :=
  match ρ, vs with
  | _, [.pointer (some t_2), .pointer (some m_3), .pointer (some p_4), .int .i64 lots_5, .int .i64 choices_7, .int .i64 i_8] => probityref21_Made_l1 t_2 m_3 p_4 lots_5 choices_7 i_8  (fun (r0_0 : Sl) (r0_1 : Sl) (r0_2 : Sl) (r0_3 : Int) (r0_4 : Int) (w' : World) => Kv (Value.agg #[(vS r0_0.p r0_0.l r0_0.c), (vS r0_1.p r0_1.l r0_1.c), (vS r0_2.p r0_2.l r0_2.c), (vI r0_3), (vI r0_4)]) w') w
  | _, _ => False
def probityref21_Made_P2 (Kv : VW) (ρ : Rho) (vs : List Value) (w : World) : Prop :=
  match ρ, vs with
  | _, [.pointer (some t_2), .pointer (some m_3), .pointer (some p_4), .int .i64 lots_5, .int .i64 deals_9, .int .i64 i_10] => probityref21_Made_l2 t_2 m_3 p_4 lots_5 deals_9 i_10  (fun (r0_0 : Sl) (r0_1 : Sl) (r0_2 : Sl) (r0_3 : Int) (r0_4 : Int) (w' : World) => Kv (Value.agg #[(vS r0_0.p r0_0.l r0_0.c), (vS r0_1.p r0_1.l r0_1.c), (vS r0_2.p r0_2.l r0_2.c), (vI r0_3), (vI r0_4)]) w') w
  | _, _ => False
def probityref21_Made_P3 (Kv : VW) (ρ : Rho) (vs : List Value) (w : World) : Prop :=
  match ρ, vs with
  | N2 :: _, [.pointer (some t_2), .pointer (some m_3), .pointer (some p_4), .int .i64 lots_5, .int .i64 deals_9, .int .i64 i_10, .pointer (some d_11), .int .i64 set_12, .int .i64 k_13] => probityref21_Made_l3 t_2 m_3 p_4 lots_5 deals_9 i_10 d_11 set_12 k_13 (fun (t_2' : Addr) (m_3' : Addr) (p_4' : Addr) (lots_5' : Int) (deals_9' : Int) (i_10' : Int) (w' : World) => N2 [(vP (some t_2')), (vP (some m_3')), (vP (some p_4')), (vI lots_5'), (vI deals_9'), (vI i_10')] w') (fun (r0_0 : Sl) (r0_1 : Sl) (r0_2 : Sl) (r0_3 : Int) (r0_4 : Int) (w' : World) => Kv (Value.agg #[(vS r0_0.p r0_0.l r0_0.c), (vS r0_1.p r0_1.l r0_1.c), (vS r0_2.p r0_2.l r0_2.c), (vI r0_3), (vI r0_4)]) w') w
  | _, _ => False
noncomputable def probityref21_Made_S : Pw.Spec := fun vs w Kv =>
  match vs with
  | [.slice l_0p l_0l l_0c] => probityref21_Made_sh ⟨l_0p, l_0l, l_0c⟩ (fun (r0_0 : Sl) (r0_1 : Sl) (r0_2 : Sl) (r0_3 : Int) (r0_4 : Int) (w' : World) => Kv (Value.agg #[(vS r0_0.p r0_0.l r0_0.c), (vS r0_1.p r0_1.l r0_1.c), (vS r0_2.p r0_2.l r0_2.c), (vI r0_3), (vI r0_4)]) w') w
  | _ => False
noncomputable def probityref21_Made_E : Pw.Env := [(19, probityref21_numbers_next_S)]
noncomputable def probityref21_Made_C : Code := (Try.f8.body).getD .skip
noncomputable def probityref21_Made_A (Kv : VW) : Pw.A :=
  (aQ (A.reg (rR RA.done))
   (aQ (A.reg (rR (rR (rR (rR RA.done)))))
   (aQ (A.reg (rR (rR (rR (rR (rR (rR (rR RA.done))))))))
   (aQ (A.reg (rR (rR (rR (rR RA.done)))))
   (aQ (aQ (A.reg (rR RA.done))
   (A.blk (A.loop [2, 3, 4, 5, 6] (probityref21_Made_P0 Kv) (aQ (aQ (A.reg (rR (rR (rR RA.done))))
   (A.cond A.leaf
   A.leaf))
   (aQ (A.blk (A.drw (DA.pur 0 (DA.pur 1 (DA.pur 2 (DA.pur 3 (DA.pur 4 (DA.pur 5 (DA.eff 6 (DA.pur 7 (DA.pur 8 (DA.eff 9 (DA.eff 10 (DA.pur 11 (DA.eff 12 DA.done)))))))))))))))
   (A.reg (rR (rR (rR RA.done)))))))))
   (aQ (A.reg (rR (rR (rR RA.done))))
   (aQ (aQ (A.reg (rR RA.done))
   (A.blk (A.loop [2, 3, 4, 5, 7, 8] (probityref21_Made_P1 Kv) (aQ (aQ (A.reg (rR (rR (rR RA.done))))
   (A.cond A.leaf
   A.leaf))
   (aQ (A.blk (A.drw (DA.pur 0 (DA.pur 1 (DA.pur 2 (DA.pur 3 (DA.pur 4 (DA.pur 5 (DA.pur 9 (DA.pur 12 (DA.pur 14 (DA.eff 6 (DA.pur 7 (DA.pur 8 (DA.eff 10 (DA.pur 11 (DA.eff 13 (DA.eff 15 (DA.pur 16 (DA.eff 17 (DA.eff 18 (DA.pur 19 (DA.eff 20 DA.done)))))))))))))))))))))))
   (A.reg (rR (rR (rR RA.done)))))))))
   (aQ (A.reg (rR (rR (rR RA.done))))
   (aQ (aQ (A.reg (rR RA.done))
   (A.blk (A.loop [2, 3, 4, 5, 9, 10] (probityref21_Made_P2 Kv) (aQ (aQ (A.reg (rR (rR (rR RA.done))))
   (A.cond A.leaf
   A.leaf))
   (aQ (A.blk (aQ (A.reg (rR (rR (rR (rR (rR (rR (rR (rR RA.done)))))))))
   (aQ (A.reg (rR (rR (rR (rR (rR (rR (rR RA.done))))))))
   (aQ (aQ (A.reg (rR RA.done))
   (A.blk (A.loop [2, 3, 4, 5, 9, 10, 11, 12, 13] (probityref21_Made_P3 Kv) (aQ (aQ (A.reg (rR (rR (rR RA.done))))
   (A.cond A.leaf
   A.leaf))
   (aQ (A.blk (aQ (A.reg (rR (rR (rR (rR (rR RA.done))))))
   (A.cond (A.drw (DA.pur 0 (DA.pur 1 (DA.pur 2 (DA.pur 3 (DA.pur 4 (DA.pur 5 (DA.pur 6 (DA.eff 7 (DA.eff 8 (DA.pur 9 (DA.eff 10 DA.done))))))))))))
   A.leaf)))
   (A.reg (rR (rR (rR RA.done)))))))))
   (A.reg (rR (rR (rR (rR (rR (rR (rR RA.done))))))))))))
   (A.reg (rR (rR (rR RA.done)))))))))
   (aQ (A.reg (rR (rR RA.done)))
   A.leaf))))))))))
noncomputable def probityref21_Made_O (Kv : VW) : List Ob := (obs Try.prog probityref21_Made_E 115 (probityref21_Made_A Kv) probityref21_Made_C (fun _ => retQ Try.prog Try.f8.results Kv))
theorem probityref21_Made_e (Kv : VW) (l_0p : Option Addr) (l_0l l_0c : Nat) (w : World) : probityref21_Made_sd ⟨l_0p, l_0l, l_0c⟩ (fun (r0_0 : Sl) (r0_1 : Sl) (r0_2 : Sl) (r0_3 : Int) (r0_4 : Int) (w' : World) => Kv (Value.agg #[(vS r0_0.p r0_0.l r0_0.c), (vS r0_1.p r0_1.l r0_1.c), (vS r0_2.p r0_2.l r0_2.c), (vI r0_3), (vI r0_4)]) w') w = W Try.prog probityref21_Made_E 115 (probityref21_Made_A Kv) probityref21_Made_C [] (retQ Try.prog Try.f8.results Kv) [] (startS [(vS l_0p l_0l l_0c)]) w := by kernel_rfl
theorem probityref21_Made_e0 (Kv : VW) (N0 : List Value → World → Prop) (ρ : Rho) (t_2 : Addr) (m_3 : Addr) (p_4 : Addr) (lots_5 : Int) (i_6 : Int) (w : World) : probityref21_Made_b0 t_2 m_3 p_4 lots_5 i_6 (fun (t_2' : Addr) (m_3' : Addr) (p_4' : Addr) (lots_5' : Int) (i_6' : Int) (w' : World) => N0 [(vP (some t_2')), (vP (some m_3')), (vP (some p_4')), (vI lots_5'), (vI i_6')] w')  (fun (r0_0 : Sl) (r0_1 : Sl) (r0_2 : Sl) (r0_3 : Int) (r0_4 : Int) (w' : World) => Kv (Value.agg #[(vS r0_0.p r0_0.l r0_0.c), (vS r0_1.p r0_1.l r0_1.c), (vS r0_2.p r0_2.l r0_2.c), (vI r0_3), (vI r0_4)]) w') w = goalAt Try.prog probityref21_Made_E 115 (probityref21_Made_O Kv) 0 (N0 :: ρ) [(vP (some t_2)), (vP (some m_3)), (vP (some p_4)), (vI lots_5), (vI i_6)] w := by kernel_rfl
theorem probityref21_Made_q0 (Kv : VW) (ρ : Rho) (vs : List Value) (w : World) : labAt (probityref21_Made_O Kv) 0 ρ vs w = probityref21_Made_P0 Kv ρ vs w := by kernel_rfl
def probityref21_Made_I0 (t_20 : Addr) (m_30 : Addr) (p_40 : Addr) (lots_50 : Int) (I : Int → World → Prop) (vs : List Value) (w : World) : Prop :=
  match vs with
  | [.pointer (some t_2), .pointer (some m_3), .pointer (some p_4), .int .i64 lots_5, .int .i64 i_6] => (t_2 = t_20 ∧ m_3 = m_30 ∧ p_4 = p_40 ∧ lots_5 = lots_50 ∧ True) ∧ I i_6 w
  | _ => False
def probityref21_Made_M0 (μ : Int → World → Nat) (vs : List Value) (w : World) : Nat :=
  match vs with
  | [.pointer (some _t_2), .pointer (some _m_3), .pointer (some _p_4), .int .i64 _lots_5, .int .i64 i_6] => μ i_6 w
  | _ => 0
theorem probityref21_Made_h0 (Kv : VW) : holdsAt Try.prog probityref21_Made_E 115 (probityref21_Made_O Kv) 0 := holdsAt_loop (by kernel_rfl) (fun ρ vs w h => by
  rw [probityref21_Made_q0] at h
  unfold probityref21_Made_P0 at h
  split at h
  · rename_i ρt t_2 m_3 p_4 lots_5 i_6
    obtain ⟨I, μ, h0, hr⟩ := h.out
    refine ⟨probityref21_Made_I0 t_2 m_3 p_4 lots_5 I, probityref21_Made_M0 μ, ⟨⟨rfl, rfl, rfl, rfl, trivial⟩, h0⟩, fun vs w hI => ?_⟩
    unfold probityref21_Made_I0 at hI
    split at hI
    · obtain ⟨⟨h0, h1, h2, h3, _⟩, hI⟩ := hI
      cases h0; cases h1; cases h2; cases h3
      rw [← probityref21_Made_e0]
      exact hr _ _ hI
    · exact hI.elim
  · exact h.elim)
theorem probityref21_Made_e1 (Kv : VW) (N1 : List Value → World → Prop) (ρ : Rho) (t_2 : Addr) (m_3 : Addr) (p_4 : Addr) (lots_5 : Int) (choices_7 : Int) (i_8 : Int) (w : World) : probityref21_Made_b1 t_2 m_3 p_4 lots_5 choices_7 i_8 (fun (t_2' : Addr) (m_3' : Addr) (p_4' : Addr) (lots_5' : Int) (choices_7' : Int) (i_8' : Int) (w' : World) => N1 [(vP (some t_2')), (vP (some m_3')), (vP (some p_4')), (vI lots_5'), (vI choices_7'), (vI i_8')] w')  (fun (r0_0 : Sl) (r0_1 : Sl) (r0_2 : Sl) (r0_3 : Int) (r0_4 : Int) (w' : World) => Kv (Value.agg #[(vS r0_0.p r0_0.l r0_0.c), (vS r0_1.p r0_1.l r0_1.c), (vS r0_2.p r0_2.l r0_2.c), (vI r0_3), (vI r0_4)]) w') w = goalAt Try.prog probityref21_Made_E 115 (probityref21_Made_O Kv) 1 (N1 :: ρ) [(vP (some t_2)), (vP (some m_3)), (vP (some p_4)), (vI lots_5), (vI choices_7), (vI i_8)] w := by kernel_rfl
theorem probityref21_Made_q1 (Kv : VW) (ρ : Rho) (vs : List Value) (w : World) : labAt (probityref21_Made_O Kv) 1 ρ vs w = probityref21_Made_P1 Kv ρ vs w := by kernel_rfl
def probityref21_Made_I1 (t_20 : Addr) (m_30 : Addr) (p_40 : Addr) (lots_50 : Int) (choices_70 : Int) (I : Int → World → Prop) (vs : List Value) (w : World) : Prop :=
  match vs with
  | [.pointer (some t_2), .pointer (some m_3), .pointer (some p_4), .int .i64 lots_5, .int .i64 choices_7, .int .i64 i_8] => (t_2 = t_20 ∧ m_3 = m_30 ∧ p_4 = p_40 ∧ lots_5 = lots_50 ∧ choices_7 = choices_70 ∧ True) ∧ I i_8 w
  | _ => False
def probityref21_Made_M1 (μ : Int → World → Nat) (vs : List Value) (w : World) : Nat :=
  match vs with
  | [.pointer (some _t_2), .pointer (some _m_3), .pointer (some _p_4), .int .i64 _lots_5, .int .i64 _choices_7, .int .i64 i_8] => μ i_8 w
  | _ => 0
theorem probityref21_Made_h1 (Kv : VW) : holdsAt Try.prog probityref21_Made_E 115 (probityref21_Made_O Kv) 1 := holdsAt_loop (by kernel_rfl) (fun ρ vs w h => by
  rw [probityref21_Made_q1] at h
  unfold probityref21_Made_P1 at h
  split at h
  · rename_i ρt t_2 m_3 p_4 lots_5 choices_7 i_8
    obtain ⟨I, μ, h0, hr⟩ := h.out
    refine ⟨probityref21_Made_I1 t_2 m_3 p_4 lots_5 choices_7 I, probityref21_Made_M1 μ, ⟨⟨rfl, rfl, rfl, rfl, rfl, trivial⟩, h0⟩, fun vs w hI => ?_⟩
    unfold probityref21_Made_I1 at hI
    split at hI
    · obtain ⟨⟨h0, h1, h2, h3, h4, _⟩, hI⟩ := hI
      cases h0; cases h1; cases h2; cases h3; cases h4
      rw [← probityref21_Made_e1]
      exact hr _ _ hI
    · exact hI.elim
  · exact h.elim)
theorem probityref21_Made_e2 (Kv : VW) (N2 : List Value → World → Prop) (ρ : Rho) (t_2 : Addr) (m_3 : Addr) (p_4 : Addr) (lots_5 : Int) (deals_9 : Int) (i_10 : Int) (w : World) : probityref21_Made_b2 t_2 m_3 p_4 lots_5 deals_9 i_10 (fun (t_2' : Addr) (m_3' : Addr) (p_4' : Addr) (lots_5' : Int) (deals_9' : Int) (i_10' : Int) (w' : World) => N2 [(vP (some t_2')), (vP (some m_3')), (vP (some p_4')), (vI lots_5'), (vI deals_9'), (vI i_10')] w')  (fun (r0_0 : Sl) (r0_1 : Sl) (r0_2 : Sl) (r0_3 : Int) (r0_4 : Int) (w' : World) => Kv (Value.agg #[(vS r0_0.p r0_0.l r0_0.c), (vS r0_1.p r0_1.l r0_1.c), (vS r0_2.p r0_2.l r0_2.c), (vI r0_3), (vI r0_4)]) w') w = goalAt Try.prog probityref21_Made_E 115 (probityref21_Made_O Kv) 2 (N2 :: ρ) [(vP (some t_2)), (vP (some m_3)), (vP (some p_4)), (vI lots_5), (vI deals_9), (vI i_10)] w := by kernel_rfl
theorem probityref21_Made_q2 (Kv : VW) (ρ : Rho) (vs : List Value) (w : World) : labAt (probityref21_Made_O Kv) 2 ρ vs w = probityref21_Made_P2 Kv ρ vs w := by kernel_rfl
def probityref21_Made_I2 (t_20 : Addr) (m_30 : Addr) (p_40 : Addr) (lots_50 : Int) (deals_90 : Int) (I : Int → World → Prop) (vs : List Value) (w : World) : Prop :=
  match vs with
  | [.pointer (some t_2), .pointer (some m_3), .pointer (some p_4), .int .i64 lots_5, .int .i64 deals_9, .int .i64 i_10] => (t_2 = t_20 ∧ m_3 = m_30 ∧ p_4 = p_40 ∧ lots_5 = lots_50 ∧ deals_9 = deals_90 ∧ True) ∧ I i_10 w
  | _ => False
def probityref21_Made_M2 (μ : Int → World → Nat) (vs : List Value) (w : World) : Nat :=
  match vs with
  | [.pointer (some _t_2), .pointer (some _m_3), .pointer (some _p_4), .int .i64 _lots_5, .int .i64 _deals_9, .int .i64 i_10] => μ i_10 w
  | _ => 0
theorem probityref21_Made_h2 (Kv : VW) : holdsAt Try.prog probityref21_Made_E 115 (probityref21_Made_O Kv) 2 := holdsAt_loop (by kernel_rfl) (fun ρ vs w h => by
  rw [probityref21_Made_q2] at h
  unfold probityref21_Made_P2 at h
  split at h
  · rename_i ρt t_2 m_3 p_4 lots_5 deals_9 i_10
    obtain ⟨I, μ, h0, hr⟩ := h.out
    refine ⟨probityref21_Made_I2 t_2 m_3 p_4 lots_5 deals_9 I, probityref21_Made_M2 μ, ⟨⟨rfl, rfl, rfl, rfl, rfl, trivial⟩, h0⟩, fun vs w hI => ?_⟩
    unfold probityref21_Made_I2 at hI
    split at hI
    · obtain ⟨⟨h0, h1, h2, h3, h4, _⟩, hI⟩ := hI
      cases h0; cases h1; cases h2; cases h3; cases h4
      rw [← probityref21_Made_e2]
      exact hr _ _ hI
    · exact hI.elim
  · exact h.elim)
theorem probityref21_Made_e3 (Kv : VW) (N3 N2 : List Value → World → Prop) (ρ : Rho) (t_2 : Addr) (m_3 : Addr) (p_4 : Addr) (lots_5 : Int) (deals_9 : Int) (i_10 : Int) (d_11 : Addr) (set_12 : Int) (k_13 : Int) (w : World) : probityref21_Made_b3 t_2 m_3 p_4 lots_5 deals_9 i_10 d_11 set_12 k_13 (fun (t_2' : Addr) (m_3' : Addr) (p_4' : Addr) (lots_5' : Int) (deals_9' : Int) (i_10' : Int) (d_11' : Addr) (set_12' : Int) (k_13' : Int) (w' : World) => N3 [(vP (some t_2')), (vP (some m_3')), (vP (some p_4')), (vI lots_5'), (vI deals_9'), (vI i_10'), (vP (some d_11')), (vI set_12'), (vI k_13')] w') (fun (t_2' : Addr) (m_3' : Addr) (p_4' : Addr) (lots_5' : Int) (deals_9' : Int) (i_10' : Int) (w' : World) => N2 [(vP (some t_2')), (vP (some m_3')), (vP (some p_4')), (vI lots_5'), (vI deals_9'), (vI i_10')] w') (fun (r0_0 : Sl) (r0_1 : Sl) (r0_2 : Sl) (r0_3 : Int) (r0_4 : Int) (w' : World) => Kv (Value.agg #[(vS r0_0.p r0_0.l r0_0.c), (vS r0_1.p r0_1.l r0_1.c), (vS r0_2.p r0_2.l r0_2.c), (vI r0_3), (vI r0_4)]) w') w = goalAt Try.prog probityref21_Made_E 115 (probityref21_Made_O Kv) 3 (N3 :: N2 :: ρ) [(vP (some t_2)), (vP (some m_3)), (vP (some p_4)), (vI lots_5), (vI deals_9), (vI i_10), (vP (some d_11)), (vI set_12), (vI k_13)] w := by kernel_rfl
theorem probityref21_Made_q3 (Kv : VW) (ρ : Rho) (vs : List Value) (w : World) : labAt (probityref21_Made_O Kv) 3 ρ vs w = probityref21_Made_P3 Kv ρ vs w := by kernel_rfl
def probityref21_Made_I3 (t_20 : Addr) (m_30 : Addr) (p_40 : Addr) (lots_50 : Int) (deals_90 : Int) (i_100 : Int) (d_110 : Addr) (set_120 : Int) (I : Int → World → Prop) (vs : List Value) (w : World) : Prop :=
  match vs with
  | [.pointer (some t_2), .pointer (some m_3), .pointer (some p_4), .int .i64 lots_5, .int .i64 deals_9, .int .i64 i_10, .pointer (some d_11), .int .i64 set_12, .int .i64 k_13] => (t_2 = t_20 ∧ m_3 = m_30 ∧ p_4 = p_40 ∧ lots_5 = lots_50 ∧ deals_9 = deals_90 ∧ i_10 = i_100 ∧ d_11 = d_110 ∧ set_12 = set_120 ∧ True) ∧ I k_13 w
  | _ => False
def probityref21_Made_M3 (μ : Int → World → Nat) (vs : List Value) (w : World) : Nat :=
  match vs with
  | [.pointer (some _t_2), .pointer (some _m_3), .pointer (some _p_4), .int .i64 _lots_5, .int .i64 _deals_9, .int .i64 _i_10, .pointer (some _d_11), .int .i64 _set_12, .int .i64 k_13] => μ k_13 w
  | _ => 0
theorem probityref21_Made_h3 (Kv : VW) : holdsAt Try.prog probityref21_Made_E 115 (probityref21_Made_O Kv) 3 := holdsAt_loop (by kernel_rfl) (fun ρ vs w h => by
  rw [probityref21_Made_q3] at h
  unfold probityref21_Made_P3 at h
  split at h
  · rename_i N2 ρt t_2 m_3 p_4 lots_5 deals_9 i_10 d_11 set_12 k_13
    obtain ⟨I, μ, h0, hr⟩ := h.out
    refine ⟨probityref21_Made_I3 t_2 m_3 p_4 lots_5 deals_9 i_10 d_11 set_12 I, probityref21_Made_M3 μ, ⟨⟨rfl, rfl, rfl, rfl, rfl, rfl, rfl, rfl, trivial⟩, h0⟩, fun vs w hI => ?_⟩
    unfold probityref21_Made_I3 at hI
    split at hI
    · obtain ⟨⟨h0, h1, h2, h3, h4, h5, h6, h7, _⟩, hI⟩ := hI
      cases h0; cases h1; cases h2; cases h3; cases h4; cases h5; cases h6; cases h7
      rw [← probityref21_Made_e3]
      exact hr _ _ hI
    · exact hI.elim
  · exact h.elim)
theorem probityref21_Made_n (Kv : VW) : obAt (probityref21_Made_O Kv) 4 = none := by kernel_rfl
theorem probityref21_Made_h (Kv : VW) : ∀ k, holdsAt Try.prog probityref21_Made_E 115 (probityref21_Made_O Kv) k := fun k => match k with
  | 0 => probityref21_Made_h0 Kv
  | 1 => probityref21_Made_h1 Kv
  | 2 => probityref21_Made_h2 Kv
  | 3 => probityref21_Made_h3 Kv
  | _k + 4 => holdsAt_ge (probityref21_Made_n Kv) (Nat.le_add_left _ _)
theorem probityref21_Made_ok : Sound Try.prog 8 probityref21_Made_S := ⟨Try.call8, fun vs w Kv h => by
  unfold probityref21_Made_S at h
  split at h
  · have h := h.out
    rw [probityref21_Made_e] at h
    exact calls_sound (Γ := probityref21_Made_E) progMixed ⟨.inl probityref21_numbers_next_ok, trivial⟩ Try.func8 (code := probityref21_Made_C) (by kernel_rfl) (probityref21_Made_A Kv) Kv (holds_all (probityref21_Made_h Kv)) (Nat.le_of_ble_eq_true (by kernel_rfl)) h
  · exact h.elim⟩
/-! probityref21_Prefixes -/
def probityref21_Prefixes_b1 (p_1 : Addr) (out_3 : Int) (now_4 : Int) (i_5 : Int) (n_6 : Int) (k_7 : Int) (N1 : Addr → Int → Int → Int → Int → Int → World → Prop) (N0 : Addr → Int → Int → Int → World → Prop) (_K : Int → World → Prop) (w : World) : Prop :=
  ∃ x3 : Sl, w.cell? (p_1.add 1) = some (vS x3.p x3.l x3.c) ∧ cnd (decide (k_7 < (x3.l : Int)))
    (let w4 : World := w.drew
  ∃ x5 : Sl, w4.cell? (p_1.add 1) = some (vS x5.p x5.l x5.c) ∧ nz x5.p fun a6 => (0 ≤ k_7 ∧ k_7 < (x5.l : Nat)) ∧ ∃ x7 : Int, w4.cell? (a6.add (k_7.toNat * 4)) = some (vI x7) ∧ ∃ x8 : Sl, w4.cell? p_1 = some (vS x8.p x8.l x8.c) ∧ nz x8.p fun a9 => (0 ≤ i_5 ∧ i_5 < (x8.l : Nat)) ∧ ∃ x10 : Int, w4.cell? (a9.add (i_5.toNat * 1)) = some (vI x10) ∧ cnd (x7 == x10)
    (inR .i64 (n_6 + (1 : Int)) ∧ inR .i64 (k_7 + (1 : Int)) ∧ N1 p_1 out_3 now_4 i_5 (n_6 + (1 : Int)) (k_7 + (1 : Int)) w4)
    (inR .i64 (k_7 + (1 : Int)) ∧ N1 p_1 out_3 now_4 i_5 n_6 (k_7 + (1 : Int)) w4))
    (inR .i64 (now_4 * n_6) ∧ inR .i64 (out_3 + (now_4 * n_6)) ∧ inR .i64 (i_5 + (1 : Int)) ∧ N0 p_1 (out_3 + (now_4 * n_6)) (now_4 * n_6) (i_5 + (1 : Int)) w)
def probityref21_Prefixes_l1d (p_1 : Addr) (out_3 : Int) (now_4 : Int) (i_5 : Int) (n_6 : Int) (k_7 : Int) (N0 : Addr → Int → Int → Int → World → Prop) (K : Int → World → Prop) (w : World) : Prop :=
  ∃ (I : Int → Int → World → Prop) (μ : Int → Int → World → Nat), I n_6 k_7 w ∧ ∀ (n_61 : Int) (k_71 : Int) (w1 : World), I n_61 k_71 w1 →
    probityref21_Prefixes_b1 p_1 out_3 now_4 i_5 n_61 k_71 (fun (p_1' : Addr) (out_3' : Int) (now_4' : Int) (i_5' : Int) (n_6' : Int) (k_7' : Int) (w' : World) => ((p_1' = p_1 ∧ out_3' = out_3 ∧ now_4' = now_4 ∧ i_5' = i_5 ∧ True) ∧ I n_6' k_7' w') ∧ μ n_6' k_7' w' < μ n_61 k_71 w1) N0 K w1
structure probityref21_Prefixes_l1 (p_1 : Addr) (out_3 : Int) (now_4 : Int) (i_5 : Int) (n_6 : Int) (k_7 : Int) (N0 : Addr → Int → Int → Int → World → Prop) (K : Int → World → Prop) (w : World) : Prop where
  out : probityref21_Prefixes_l1d p_1 out_3 now_4 i_5 n_6 k_7 N0 K w
def probityref21_Prefixes_b0 (p_1 : Addr) (out_3 : Int) (now_4 : Int) (i_5 : Int) (N0 : Addr → Int → Int → Int → World → Prop)  (K : Int → World → Prop) (w : World) : Prop :=
  ∃ x2 : Sl, w.cell? p_1 = some (vS x2.p x2.l x2.c) ∧ cnd (decide (i_5 < (x2.l : Int)))
    (probityref21_Prefixes_l1 p_1 out_3 now_4 i_5 (1 : Int) (0 : Int) N0 K w)
    (K out_3 w)
def probityref21_Prefixes_l0d (p_1 : Addr) (out_3 : Int) (now_4 : Int) (i_5 : Int)  (K : Int → World → Prop) (w : World) : Prop :=
  ∃ (I : Int → Int → Int → World → Prop) (μ : Int → Int → Int → World → Nat), I out_3 now_4 i_5 w ∧ ∀ (out_31 : Int) (now_41 : Int) (i_51 : Int) (w1 : World), I out_31 now_41 i_51 w1 →
    probityref21_Prefixes_b0 p_1 out_31 now_41 i_51 (fun (p_1' : Addr) (out_3' : Int) (now_4' : Int) (i_5' : Int) (w' : World) => ((p_1' = p_1 ∧ True) ∧ I out_3' now_4' i_5' w') ∧ μ out_3' now_4' i_5' w' < μ out_31 now_41 i_51 w1)  K w1
structure probityref21_Prefixes_l0 (p_1 : Addr) (out_3 : Int) (now_4 : Int) (i_5 : Int)  (K : Int → World → Prop) (w : World) : Prop where
  out : probityref21_Prefixes_l0d p_1 out_3 now_4 i_5 K w
def probityref21_Prefixes_sd (p_0_0 : Sl) (p_0_1 : Sl) (p_0_2 : Sl) (p_0_3 : Int) (p_0_4 : Int) (K : Int → World → Prop) (w : World) : Prop :=
  let w1 : World := w.alloc (Obj.cells #[(vS p_0_0.p p_0_0.l p_0_0.c), (vS p_0_1.p p_0_1.l p_0_1.c), (vS p_0_2.p p_0_2.l p_0_2.c), (vI p_0_3), (vI p_0_4)] 28)
  probityref21_Prefixes_l0 (Addr.mk w.heap.size 0 none) (1 : Int) (1 : Int) (0 : Int) K w1
structure probityref21_Prefixes_sh (p_0_0 : Sl) (p_0_1 : Sl) (p_0_2 : Sl) (p_0_3 : Int) (p_0_4 : Int) (K : Int → World → Prop) (w : World) : Prop where
  out : probityref21_Prefixes_sd p_0_0 p_0_1 p_0_2 p_0_3 p_0_4 K w
def probityref21_Prefixes_P0 (Kv : VW) (ρ : Rho) (vs : List Value) (w : World) : Prop :=
  match ρ, vs with
  | _, [.pointer (some p_1), .int .i64 out_3, .int .i64 now_4, .int .i64 i_5] => probityref21_Prefixes_l0 p_1 out_3 now_4 i_5  (fun (r0 : Int) (w' : World) => Kv (vI r0) w') w
  | _, _ => False
def probityref21_Prefixes_P1 (Kv : VW) (ρ : Rho) (vs : List Value) (w : World) : Prop :=
  match ρ, vs with
  | N0 :: _, [.pointer (some p_1), .int .i64 out_3, .int .i64 now_4, .int .i64 i_5, .int .i64 n_6, .int .i64 k_7] => probityref21_Prefixes_l1 p_1 out_3 now_4 i_5 n_6 k_7 (fun (p_1' : Addr) (out_3' : Int) (now_4' : Int) (i_5' : Int) (w' : World) => N0 [(vP (some p_1')), (vI out_3'), (vI now_4'), (vI i_5')] w') (fun (r0 : Int) (w' : World) => Kv (vI r0) w') w
  | _, _ => False
noncomputable def probityref21_Prefixes_S : Pw.Spec := fun vs w Kv =>
  match vs with
  | [.agg ⟨[.slice p_0_0p p_0_0l p_0_0c, .slice p_0_1p p_0_1l p_0_1c, .slice p_0_2p p_0_2l p_0_2c, .int .i64 p_0_3, .int .i64 p_0_4]⟩] => probityref21_Prefixes_sh ⟨p_0_0p, p_0_0l, p_0_0c⟩ ⟨p_0_1p, p_0_1l, p_0_1c⟩ ⟨p_0_2p, p_0_2l, p_0_2c⟩ p_0_3 p_0_4 (fun (r0 : Int) (w' : World) => Kv (vI r0) w') w
  | _ => False
noncomputable def probityref21_Prefixes_E : Pw.Env := []
noncomputable def probityref21_Prefixes_C : Code := (Try.f9.body).getD .skip
noncomputable def probityref21_Prefixes_A (Kv : VW) : Pw.A :=
  (aQ (A.reg (rR (rR RA.done)))
   (aQ (A.reg (rR RA.done))
   (aQ (A.reg (rR RA.done))
   (aQ (aQ (A.reg (rR RA.done))
   (A.blk (A.loop [1, 3, 4, 5] (probityref21_Prefixes_P0 Kv) (aQ (aQ (A.reg (rR (rR (rR (rR (rR RA.done))))))
   (A.cond A.leaf
   A.leaf))
   (aQ (A.blk (aQ (A.reg (rR RA.done))
   (aQ (aQ (A.reg (rR RA.done))
   (A.blk (A.loop [1, 3, 4, 5, 6, 7] (probityref21_Prefixes_P1 Kv) (aQ (aQ (A.reg (rR (rR (rR (rR (rR RA.done))))))
   (A.cond A.leaf
   A.leaf))
   (aQ (A.blk (aQ (A.drp (DA.pur 0 (DA.pur 1 (DA.pur 2 (DA.pur 3 (DA.pur 4 (DA.pur 5 (DA.pur 6 (DA.pur 7 (DA.pur 8 (DA.pur 9 (DA.pur 10 (DA.pur 11 DA.done)))))))))))))
   (A.cond (A.reg (rR (rR (rR RA.done))))
   A.leaf)))
   (A.reg (rR (rR (rR RA.done)))))))))
   (aQ (A.reg (rR (rR (rR (rR RA.done)))))
   (A.reg (rR (rR (rR (rR RA.done)))))))))
   (A.reg (rR (rR (rR RA.done)))))))))
   (aQ (A.reg (rR (rR RA.done)))
   A.leaf)))))
noncomputable def probityref21_Prefixes_O (Kv : VW) : List Ob := (obs Try.prog probityref21_Prefixes_E 43 (probityref21_Prefixes_A Kv) probityref21_Prefixes_C (fun _ => retQ Try.prog Try.f9.results Kv))
theorem probityref21_Prefixes_e (Kv : VW) (p_0_0p : Option Addr) (p_0_0l p_0_0c : Nat) (p_0_1p : Option Addr) (p_0_1l p_0_1c : Nat) (p_0_2p : Option Addr) (p_0_2l p_0_2c : Nat) (p_0_3 : Int) (p_0_4 : Int) (w : World) : probityref21_Prefixes_sd ⟨p_0_0p, p_0_0l, p_0_0c⟩ ⟨p_0_1p, p_0_1l, p_0_1c⟩ ⟨p_0_2p, p_0_2l, p_0_2c⟩ p_0_3 p_0_4 (fun (r0 : Int) (w' : World) => Kv (vI r0) w') w = W Try.prog probityref21_Prefixes_E 43 (probityref21_Prefixes_A Kv) probityref21_Prefixes_C [] (retQ Try.prog Try.f9.results Kv) [] (startS [(Value.agg #[(vS p_0_0p p_0_0l p_0_0c), (vS p_0_1p p_0_1l p_0_1c), (vS p_0_2p p_0_2l p_0_2c), (vI p_0_3), (vI p_0_4)])]) w := by kernel_rfl
theorem probityref21_Prefixes_e0 (Kv : VW) (N0 : List Value → World → Prop) (ρ : Rho) (p_1 : Addr) (out_3 : Int) (now_4 : Int) (i_5 : Int) (w : World) : probityref21_Prefixes_b0 p_1 out_3 now_4 i_5 (fun (p_1' : Addr) (out_3' : Int) (now_4' : Int) (i_5' : Int) (w' : World) => N0 [(vP (some p_1')), (vI out_3'), (vI now_4'), (vI i_5')] w')  (fun (r0 : Int) (w' : World) => Kv (vI r0) w') w = goalAt Try.prog probityref21_Prefixes_E 43 (probityref21_Prefixes_O Kv) 0 (N0 :: ρ) [(vP (some p_1)), (vI out_3), (vI now_4), (vI i_5)] w := by kernel_rfl
theorem probityref21_Prefixes_q0 (Kv : VW) (ρ : Rho) (vs : List Value) (w : World) : labAt (probityref21_Prefixes_O Kv) 0 ρ vs w = probityref21_Prefixes_P0 Kv ρ vs w := by kernel_rfl
def probityref21_Prefixes_I0 (p_10 : Addr) (I : Int → Int → Int → World → Prop) (vs : List Value) (w : World) : Prop :=
  match vs with
  | [.pointer (some p_1), .int .i64 out_3, .int .i64 now_4, .int .i64 i_5] => (p_1 = p_10 ∧ True) ∧ I out_3 now_4 i_5 w
  | _ => False
def probityref21_Prefixes_M0 (μ : Int → Int → Int → World → Nat) (vs : List Value) (w : World) : Nat :=
  match vs with
  | [.pointer (some _p_1), .int .i64 out_3, .int .i64 now_4, .int .i64 i_5] => μ out_3 now_4 i_5 w
  | _ => 0
theorem probityref21_Prefixes_h0 (Kv : VW) : holdsAt Try.prog probityref21_Prefixes_E 43 (probityref21_Prefixes_O Kv) 0 := holdsAt_loop (by kernel_rfl) (fun ρ vs w h => by
  rw [probityref21_Prefixes_q0] at h
  unfold probityref21_Prefixes_P0 at h
  split at h
  · rename_i ρt p_1 out_3 now_4 i_5
    obtain ⟨I, μ, h0, hr⟩ := h.out
    refine ⟨probityref21_Prefixes_I0 p_1 I, probityref21_Prefixes_M0 μ, ⟨⟨rfl, trivial⟩, h0⟩, fun vs w hI => ?_⟩
    unfold probityref21_Prefixes_I0 at hI
    split at hI
    · obtain ⟨⟨h0, _⟩, hI⟩ := hI
      cases h0
      rw [← probityref21_Prefixes_e0]
      exact hr _ _ _ _ hI
    · exact hI.elim
  · exact h.elim)
theorem probityref21_Prefixes_e1 (Kv : VW) (N1 N0 : List Value → World → Prop) (ρ : Rho) (p_1 : Addr) (out_3 : Int) (now_4 : Int) (i_5 : Int) (n_6 : Int) (k_7 : Int) (w : World) : probityref21_Prefixes_b1 p_1 out_3 now_4 i_5 n_6 k_7 (fun (p_1' : Addr) (out_3' : Int) (now_4' : Int) (i_5' : Int) (n_6' : Int) (k_7' : Int) (w' : World) => N1 [(vP (some p_1')), (vI out_3'), (vI now_4'), (vI i_5'), (vI n_6'), (vI k_7')] w') (fun (p_1' : Addr) (out_3' : Int) (now_4' : Int) (i_5' : Int) (w' : World) => N0 [(vP (some p_1')), (vI out_3'), (vI now_4'), (vI i_5')] w') (fun (r0 : Int) (w' : World) => Kv (vI r0) w') w = goalAt Try.prog probityref21_Prefixes_E 43 (probityref21_Prefixes_O Kv) 1 (N1 :: N0 :: ρ) [(vP (some p_1)), (vI out_3), (vI now_4), (vI i_5), (vI n_6), (vI k_7)] w := by kernel_rfl
theorem probityref21_Prefixes_q1 (Kv : VW) (ρ : Rho) (vs : List Value) (w : World) : labAt (probityref21_Prefixes_O Kv) 1 ρ vs w = probityref21_Prefixes_P1 Kv ρ vs w := by kernel_rfl
def probityref21_Prefixes_I1 (p_10 : Addr) (out_30 : Int) (now_40 : Int) (i_50 : Int) (I : Int → Int → World → Prop) (vs : List Value) (w : World) : Prop :=
  match vs with
  | [.pointer (some p_1), .int .i64 out_3, .int .i64 now_4, .int .i64 i_5, .int .i64 n_6, .int .i64 k_7] => (p_1 = p_10 ∧ out_3 = out_30 ∧ now_4 = now_40 ∧ i_5 = i_50 ∧ True) ∧ I n_6 k_7 w
  | _ => False
def probityref21_Prefixes_M1 (μ : Int → Int → World → Nat) (vs : List Value) (w : World) : Nat :=
  match vs with
  | [.pointer (some _p_1), .int .i64 _out_3, .int .i64 _now_4, .int .i64 _i_5, .int .i64 n_6, .int .i64 k_7] => μ n_6 k_7 w
  | _ => 0
theorem probityref21_Prefixes_h1 (Kv : VW) : holdsAt Try.prog probityref21_Prefixes_E 43 (probityref21_Prefixes_O Kv) 1 := holdsAt_loop (by kernel_rfl) (fun ρ vs w h => by
  rw [probityref21_Prefixes_q1] at h
  unfold probityref21_Prefixes_P1 at h
  split at h
  · rename_i N0 ρt p_1 out_3 now_4 i_5 n_6 k_7
    obtain ⟨I, μ, h0, hr⟩ := h.out
    refine ⟨probityref21_Prefixes_I1 p_1 out_3 now_4 i_5 I, probityref21_Prefixes_M1 μ, ⟨⟨rfl, rfl, rfl, rfl, trivial⟩, h0⟩, fun vs w hI => ?_⟩
    unfold probityref21_Prefixes_I1 at hI
    split at hI
    · obtain ⟨⟨h0, h1, h2, h3, _⟩, hI⟩ := hI
      cases h0; cases h1; cases h2; cases h3
      rw [← probityref21_Prefixes_e1]
      exact hr _ _ _ hI
    · exact hI.elim
  · exact h.elim)
theorem probityref21_Prefixes_n (Kv : VW) : obAt (probityref21_Prefixes_O Kv) 2 = none := by kernel_rfl
theorem probityref21_Prefixes_h (Kv : VW) : ∀ k, holdsAt Try.prog probityref21_Prefixes_E 43 (probityref21_Prefixes_O Kv) k := fun k => match k with
  | 0 => probityref21_Prefixes_h0 Kv
  | 1 => probityref21_Prefixes_h1 Kv
  | _k + 2 => holdsAt_ge (probityref21_Prefixes_n Kv) (Nat.le_add_left _ _)
theorem probityref21_Prefixes_ok : Sound Try.prog 9 probityref21_Prefixes_S := ⟨Try.call9, fun vs w Kv h => by
  unfold probityref21_Prefixes_S at h
  split at h
  · have h := h.out
    rw [probityref21_Prefixes_e] at h
    exact calls_sound (Γ := probityref21_Prefixes_E) progMixed trivial Try.func9 (code := probityref21_Prefixes_C) (by kernel_rfl) (probityref21_Prefixes_A Kv) Kv (holds_all (probityref21_Prefixes_h Kv)) (Nat.le_of_ble_eq_true (by kernel_rfl)) h
  · exact h.elim⟩
end Go.Proofs.Ytmkjcheafdionaa
