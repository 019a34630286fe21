/- The bodies' formulas, by program. -/
import Derived.Test.YtfclokkfnkieoaaGreatDoorProg
import Derived.KernelRfl
import Derived.Test.YtfclokkfnkieoaaGreatDoorPwX
import Derived.Test.YtfclokkfnkieoaaGreatDoorRG0
set_option maxRecDepth 20000
namespace Go.Proofs.YtfclokkfnkieoaaGreatDoor
open Go Pw
/-! probityref01_trim -/
def probityref01_trim_b0 (l_0 : Sl) (N0 : Sl → World → Prop)  (K : Sl → World → Prop) (w : World) : Prop :=
  cnd (decide ((l_0.l : Int) > (0 : Int)))
    (inR .i64 ((l_0.l : Int) - (1 : Int)) ∧ nz l_0.p fun a1 => (0 ≤ ((l_0.l : Int) - (1 : Int)) ∧ ((l_0.l : Int) - (1 : Int)) < (l_0.l : Nat)) ∧ ∃ x2 : Int, w.cell? (a1.add (((l_0.l : Int) - (1 : Int)).toNat * 1)) = some (Value.int .i64 x2) ∧ cnd (x2 == (0 : Int))
    (inR .i64 ((l_0.l : Int) - (1 : Int)) ∧ (0 ≤ (0 : Int) ∧ (0 : Int) ≤ ((l_0.l : Int) - (1 : Int)) ∧ ((l_0.l : Int) - (1 : Int)) ≤ (l_0.c : Nat)) ∧ N0 (Sl.mk (subP l_0.p 0 l_0.c 1) (((l_0.l : Int) - (1 : Int)).toNat - 0) (l_0.c - 0)) w)
    (K l_0 w))
    (K l_0 w)
def probityref01_trim_l0d (l_0 : Sl)  (K : Sl → World → Prop) (w : World) : Prop :=
  ∃ (I : Sl → World → Prop) (μ : Sl → World → Nat), I l_0 w ∧ ∀ (l_01 : Sl) (w1 : World), I l_01 w1 →
    probityref01_trim_b0 l_01 (fun (l_0' : Sl) (w' : World) => ((True) ∧ I l_0' w') ∧ μ l_0' w' < μ l_01 w1)  K w1
structure probityref01_trim_l0 (l_0 : Sl)  (K : Sl → World → Prop) (w : World) : Prop where
  out : probityref01_trim_l0d l_0 K w

def probityref01_trim_sd (l_0 : Sl) (K : Sl → World → Prop) (w : World) : Prop :=
  probityref01_trim_l0 l_0 K w

structure probityref01_trim_sh (l_0 : Sl) (K : Sl → World → Prop) (w : World) : Prop where
  out : probityref01_trim_sd l_0 K w

def probityref01_trim_P0 (Kv : VW) (ρ : Rho) (vs : List Value) (w : World) : Prop :=
  match ρ, vs with
  | _, [.slice l_0p l_0l l_0c] => probityref01_trim_l0 ⟨l_0p, l_0l, l_0c⟩  (fun (r0 : Sl) (w' : World) => Kv (Value.slice r0.p r0.l r0.c) w') w
  | _, _ => False

noncomputable def probityref01_trim_S : Pw.Spec := fun vs w Kv =>
  match vs with
  | [.slice l_0p l_0l l_0c] => probityref01_trim_sh ⟨l_0p, l_0l, l_0c⟩ (fun (r0 : Sl) (w' : World) => Kv (Value.slice r0.p r0.l r0.c) w') w
  | _ => False

noncomputable def probityref01_trim_E : Pw.Env := []

noncomputable def probityref01_trim_C : Code := (Tryz.f66.body).getD .skip

noncomputable def probityref01_trim_A (Kv : VW) : Pw.A :=
  (A.seq (A.reg (RA.run RA.done))
   (A.seq (A.blk (A.loop [0] (probityref01_trim_P0 Kv) (A.seq (A.seq (A.reg (RA.run (RA.run (RA.run (RA.run (RA.spl 6 (RA.run (RA.run (RA.run (RA.run (RA.run (RA.run (RA.run (RA.run RA.done)))))))) (RA.skp (RA.skp (RA.skp (RA.skp (RA.skp (RA.skp (RA.skp (RA.run RA.done))))))))))))))
   (A.cond A.leaf
   A.leaf))
   (A.blk (A.reg (RA.run (RA.run (RA.run (RA.run (RA.run (RA.run RA.done)))))))))))
   (A.seq (A.reg (RA.run (RA.run RA.done)))
   A.leaf)))

noncomputable def probityref01_trim_O (Kv : VW) : List Ob := (obs Tryz.prog probityref01_trim_E 21 (probityref01_trim_A Kv) probityref01_trim_C (fun _ => retQ Tryz.prog Tryz.f66.results Kv))

theorem probityref01_trim_e (Kv : VW) (l_0p : Option Addr) (l_0l l_0c : Nat) (w : World) : probityref01_trim_sd ⟨l_0p, l_0l, l_0c⟩ (fun (r0 : Sl) (w' : World) => Kv (Value.slice r0.p r0.l r0.c) w') w = W Tryz.prog probityref01_trim_E 21 (probityref01_trim_A Kv) probityref01_trim_C [] (retQ Tryz.prog Tryz.f66.results Kv) [] (startS [(Value.slice l_0p l_0l l_0c)]) w := by kernel_rfl

theorem probityref01_trim_e0 (Kv : VW) (N0 : List Value → World → Prop) (ρ : Rho) (l_0p : Option Addr) (l_0l l_0c : Nat) (w : World) : probityref01_trim_b0 ⟨l_0p, l_0l, l_0c⟩ (fun (l_0' : Sl) (w' : World) => N0 [(Value.slice l_0'.p l_0'.l l_0'.c)] w')  (fun (r0 : Sl) (w' : World) => Kv (Value.slice r0.p r0.l r0.c) w') w = goalAt Tryz.prog probityref01_trim_E 21 (probityref01_trim_O Kv) 0 (N0 :: ρ) [(Value.slice l_0p l_0l l_0c)] w := by kernel_rfl

theorem probityref01_trim_q0 (Kv : VW) (ρ : Rho) (vs : List Value) (w : World) : labAt (probityref01_trim_O Kv) 0 ρ vs w = probityref01_trim_P0 Kv ρ vs w := by kernel_rfl

def probityref01_trim_I0  (I : Sl → World → Prop) (vs : List Value) (w : World) : Prop :=
  match vs with
  | [.slice l_0p l_0l l_0c] => (True) ∧ I ⟨l_0p, l_0l, l_0c⟩ w
  | _ => False

def probityref01_trim_M0 (μ : Sl → World → Nat) (vs : List Value) (w : World) : Nat :=
  match vs with
  | [.slice l_0p l_0l l_0c] => μ ⟨l_0p, l_0l, l_0c⟩ w
  | _ => 0

theorem probityref01_trim_h0 (Kv : VW) : holdsAt Tryz.prog probityref01_trim_E 21 (probityref01_trim_O Kv) 0 := holdsAt_loop (by kernel_rfl) (fun ρ vs w h => by
  rw [probityref01_trim_q0] at h
  unfold probityref01_trim_P0 at h
  split at h
  · rename_i ρt l_0p l_0l l_0c
    obtain ⟨I, μ, h0, hr⟩ := h.out
    refine ⟨probityref01_trim_I0  I, probityref01_trim_M0 μ, ⟨trivial, h0⟩, fun vs w hI => ?_⟩
    unfold probityref01_trim_I0 at hI
    split at hI
    · obtain ⟨_, hI⟩ := hI
      skip
      rw [← probityref01_trim_e0]
      exact hr _ _ hI
    · exact hI.elim
  · exact h.elim)

theorem probityref01_trim_n (Kv : VW) : obAt (probityref01_trim_O Kv) 1 = none := by kernel_rfl

theorem probityref01_trim_h (Kv : VW) : ∀ k, holdsAt Tryz.prog probityref01_trim_E 21 (probityref01_trim_O Kv) k := fun k => match k with
  | 0 => probityref01_trim_h0 Kv
  | _k + 1 => holdsAt_ge (probityref01_trim_n Kv) (Nat.le_add_left _ _)

theorem probityref01_trim_ok : Sound Tryz.prog 66 probityref01_trim_S := ⟨Tryz.call66, fun vs w Kv h => by
  unfold probityref01_trim_S at h
  split at h
  · have h := h.out
    rw [probityref01_trim_e] at h
    exact calls_sound (Γ := probityref01_trim_E) progMixed trivial Tryz.func66 (code := probityref01_trim_C) (by kernel_rfl) (probityref01_trim_A Kv) Kv (holds_all (probityref01_trim_h Kv)) (Nat.le_of_ble_eq_true (by kernel_rfl)) h
  · exact h.elim⟩

/-! probityref01_compare -/
def probityref01_compare_b0 (a_0 : Sl) (b_1 : Sl) (i_5 : Int) (N0 : Sl → Sl → Int → World → Prop)  (K : Int → World → Prop) (w : World) : Prop :=
  cnd (decide (i_5 ≥ (0 : Int)))
    (let w1 : World := w.drew
  nz a_0.p fun a2 => (0 ≤ i_5 ∧ i_5 < (a_0.l : Nat)) ∧ ∃ x3 : Int, w1.cell? (a2.add (i_5.toNat * 1)) = some (Value.int .i64 x3) ∧ nz b_1.p fun a4 => (0 ≤ i_5 ∧ i_5 < (b_1.l : Nat)) ∧ ∃ x5 : Int, w1.cell? (a4.add (i_5.toNat * 1)) = some (Value.int .i64 x5) ∧ cnd (x3 != x5)
    (let w6 : World := w1.drew
  nz a_0.p fun a7 => (0 ≤ i_5 ∧ i_5 < (a_0.l : Nat)) ∧ ∃ x8 : Int, w6.cell? (a7.add (i_5.toNat * 1)) = some (Value.int .i64 x8) ∧ nz b_1.p fun a9 => (0 ≤ i_5 ∧ i_5 < (b_1.l : Nat)) ∧ ∃ x10 : Int, w6.cell? (a9.add (i_5.toNat * 1)) = some (Value.int .i64 x10) ∧ cnd (decide (x8 < x10))
    (K (-1 : Int) w6)
    (K (1 : Int) w6))
    (inR .i64 (i_5 - (1 : Int)) ∧ N0 a_0 b_1 (i_5 - (1 : Int)) w1))
    (K (0 : Int) w)
def probityref01_compare_l0d (a_0 : Sl) (b_1 : Sl) (i_5 : Int)  (K : Int → World → Prop) (w : World) : Prop :=
  ∃ (I : Int → World → Prop) (μ : Int → World → Nat), I i_5 w ∧ ∀ (i_51 : Int) (w1 : World), I i_51 w1 →
    probityref01_compare_b0 a_0 b_1 i_51 (fun (a_0' : Sl) (b_1' : Sl) (i_5' : Int) (w' : World) => ((a_0' = a_0 ∧ b_1' = b_1 ∧ True) ∧ I i_5' w') ∧ μ i_5' w' < μ i_51 w1)  K w1
structure probityref01_compare_l0 (a_0 : Sl) (b_1 : Sl) (i_5 : Int)  (K : Int → World → Prop) (w : World) : Prop where
  out : probityref01_compare_l0d a_0 b_1 i_5 K w

def probityref01_compare_sd (a_0 : Sl) (b_1 : Sl) (K : Int → World → Prop) (w : World) : Prop :=
  cnd ((a_0.l : Int) != (b_1.l : Int))
    (cnd (decide ((a_0.l : Int) < (b_1.l : Int)))
    (K (-1 : Int) w)
    (K (1 : Int) w))
    (inR .i64 ((a_0.l : Int) - (1 : Int)) ∧ probityref01_compare_l0 a_0 b_1 ((a_0.l : Int) - (1 : Int)) K w)

structure probityref01_compare_sh (a_0 : Sl) (b_1 : Sl) (K : Int → World → Prop) (w : World) : Prop where
  out : probityref01_compare_sd a_0 b_1 K w

def probityref01_compare_P0 (Kv : VW) (ρ : Rho) (vs : List Value) (w : World) : Prop :=
  match ρ, vs with
  | _, [.slice a_0p a_0l a_0c, .slice b_1p b_1l b_1c, .int .i64 i_5] => probityref01_compare_l0 ⟨a_0p, a_0l, a_0c⟩ ⟨b_1p, b_1l, b_1c⟩ i_5  (fun (r0 : Int) (w' : World) => Kv (Value.int .i64 r0) w') w
  | _, _ => False

noncomputable def probityref01_compare_S : Pw.Spec := fun vs w Kv =>
  match vs with
  | [.slice a_0p a_0l a_0c, .slice b_1p b_1l b_1c] => probityref01_compare_sh ⟨a_0p, a_0l, a_0c⟩ ⟨b_1p, b_1l, b_1c⟩ (fun (r0 : Int) (w' : World) => Kv (Value.int .i64 r0) w') w
  | _ => False

noncomputable def probityref01_compare_E : Pw.Env := []

noncomputable def probityref01_compare_C : Code := (Tryz.f86.body).getD .skip

noncomputable def probityref01_compare_A (Kv : VW) : Pw.A :=
  (A.seq (A.reg (RA.run RA.done))
   (A.seq (A.seq (A.reg (RA.run (RA.run (RA.run (RA.run (RA.run RA.done))))))
   (A.cond (A.seq (A.seq (A.reg (RA.run (RA.run (RA.run (RA.run (RA.run RA.done))))))
   (A.cond (A.seq (A.reg (RA.run RA.done))
   A.leaf)
   A.leaf))
   (A.seq (A.reg (RA.run RA.done))
   A.leaf))
   A.leaf))
   (A.seq (A.seq (A.reg (RA.run (RA.run (RA.run (RA.run RA.done)))))
   (A.blk (A.loop [0, 1, 5] (probityref01_compare_P0 Kv) (A.seq (A.seq (A.reg (RA.run (RA.run RA.done)))
   (A.cond A.leaf
   A.leaf))
   (A.seq (A.blk (A.seq (A.drp (DA.pur 0 (DA.pur 1 (DA.pur 2 (DA.pur 3 (DA.pur 4 (DA.pur 5 (DA.pur 6 (DA.pur 7 (DA.pur 8 DA.done))))))))))
   (A.cond (A.seq (A.seq (A.drp (DA.pur 0 (DA.pur 1 (DA.pur 2 (DA.pur 3 (DA.pur 4 (DA.pur 5 (DA.pur 6 (DA.pur 7 (DA.pur 8 DA.done))))))))))
   (A.cond (A.seq (A.reg (RA.run RA.done))
   A.leaf)
   A.leaf))
   (A.seq (A.reg (RA.run RA.done))
   A.leaf))
   A.leaf)))
   (A.reg (RA.run (RA.run (RA.run RA.done)))))))))
   (A.seq (A.reg (RA.run RA.done))
   A.leaf))))

noncomputable def probityref01_compare_O (Kv : VW) : List Ob := (obs Tryz.prog probityref01_compare_E 41 (probityref01_compare_A Kv) probityref01_compare_C (fun _ => retQ Tryz.prog Tryz.f86.results Kv))

theorem probityref01_compare_e (Kv : VW) (a_0p : Option Addr) (a_0l a_0c : Nat) (b_1p : Option Addr) (b_1l b_1c : Nat) (w : World) : probityref01_compare_sd ⟨a_0p, a_0l, a_0c⟩ ⟨b_1p, b_1l, b_1c⟩ (fun (r0 : Int) (w' : World) => Kv (Value.int .i64 r0) w') w = W Tryz.prog probityref01_compare_E 41 (probityref01_compare_A Kv) probityref01_compare_C [] (retQ Tryz.prog Tryz.f86.results Kv) [] (startS [(Value.slice a_0p a_0l a_0c), (Value.slice b_1p b_1l b_1c)]) w := by kernel_rfl

theorem probityref01_compare_e0 (Kv : VW) (N0 : List Value → World → Prop) (ρ : Rho) (a_0p : Option Addr) (a_0l a_0c : Nat) (b_1p : Option Addr) (b_1l b_1c : Nat) (i_5 : Int) (w : World) : probityref01_compare_b0 ⟨a_0p, a_0l, a_0c⟩ ⟨b_1p, b_1l, b_1c⟩ i_5 (fun (a_0' : Sl) (b_1' : Sl) (i_5' : Int) (w' : World) => N0 [(Value.slice a_0'.p a_0'.l a_0'.c), (Value.slice b_1'.p b_1'.l b_1'.c), (Value.int .i64 i_5')] w')  (fun (r0 : Int) (w' : World) => Kv (Value.int .i64 r0) w') w = goalAt Tryz.prog probityref01_compare_E 41 (probityref01_compare_O Kv) 0 (N0 :: ρ) [(Value.slice a_0p a_0l a_0c), (Value.slice b_1p b_1l b_1c), (Value.int .i64 i_5)] w := by kernel_rfl

theorem probityref01_compare_q0 (Kv : VW) (ρ : Rho) (vs : List Value) (w : World) : labAt (probityref01_compare_O Kv) 0 ρ vs w = probityref01_compare_P0 Kv ρ vs w := by kernel_rfl

def probityref01_compare_I0 (a_00 : Sl) (b_10 : Sl) (I : Int → World → Prop) (vs : List Value) (w : World) : Prop :=
  match vs with
  | [.slice a_0p a_0l a_0c, .slice b_1p b_1l b_1c, .int .i64 i_5] => (⟨a_0p, a_0l, a_0c⟩ = a_00 ∧ ⟨b_1p, b_1l, b_1c⟩ = b_10 ∧ True) ∧ I i_5 w
  | _ => False

def probityref01_compare_M0 (μ : Int → World → Nat) (vs : List Value) (w : World) : Nat :=
  match vs with
  | [.slice _a_0p _a_0l _a_0c, .slice _b_1p _b_1l _b_1c, .int .i64 i_5] => μ i_5 w
  | _ => 0

theorem probityref01_compare_h0 (Kv : VW) : holdsAt Tryz.prog probityref01_compare_E 41 (probityref01_compare_O Kv) 0 := holdsAt_loop (by kernel_rfl) (fun ρ vs w h => by
  rw [probityref01_compare_q0] at h
  unfold probityref01_compare_P0 at h
  split at h
  · rename_i ρt a_0p a_0l a_0c b_1p b_1l b_1c i_5
    obtain ⟨I, μ, h0, hr⟩ := h.out
    refine ⟨probityref01_compare_I0 ⟨a_0p, a_0l, a_0c⟩ ⟨b_1p, b_1l, b_1c⟩ I, probityref01_compare_M0 μ, ⟨⟨rfl, rfl, trivial⟩, h0⟩, fun vs w hI => ?_⟩
    unfold probityref01_compare_I0 at hI
    split at hI
    · obtain ⟨⟨h0, h1, _⟩, hI⟩ := hI
      cases h0; cases h1
      rw [← probityref01_compare_e0]
      exact hr _ _ hI
    · exact hI.elim
  · exact h.elim)

theorem probityref01_compare_n (Kv : VW) : obAt (probityref01_compare_O Kv) 1 = none := by kernel_rfl

theorem probityref01_compare_h (Kv : VW) : ∀ k, holdsAt Tryz.prog probityref01_compare_E 41 (probityref01_compare_O Kv) k := fun k => match k with
  | 0 => probityref01_compare_h0 Kv
  | _k + 1 => holdsAt_ge (probityref01_compare_n Kv) (Nat.le_add_left _ _)

theorem probityref01_compare_ok : Sound Tryz.prog 86 probityref01_compare_S := ⟨Tryz.call86, fun vs w Kv h => by
  unfold probityref01_compare_S at h
  split at h
  · have h := h.out
    rw [probityref01_compare_e] at h
    exact calls_sound (Γ := probityref01_compare_E) progMixed trivial Tryz.func86 (code := probityref01_compare_C) (by kernel_rfl) (probityref01_compare_A Kv) Kv (holds_all (probityref01_compare_h Kv)) (Nat.le_of_ble_eq_true (by kernel_rfl)) h
  · exact h.elim⟩

/-! probityref01_times -/
def probityref01_times_b1 (a_0 : Sl) (b_1 : Sl) (out_5 : Sl) (i_6 : Int) (carry_7 : Int) (k_8 : Int) (N1 : Sl → Sl → Sl → Int → Int → Int → World → Prop) (N0 : Sl → Sl → Sl → Int → World → Prop) (_K : Sl → World → Prop) (w : World) : Prop :=
  cnd (decide (k_8 < (b_1.l : Int)))
    (let w3 : World := w.drew
  inR .i64 (i_6 + k_8) ∧ nz out_5.p fun a4 => (0 ≤ (i_6 + k_8) ∧ (i_6 + k_8) < (out_5.l : Nat)) ∧ ∃ x5 : Int, w3.cell? (a4.add ((i_6 + k_8).toNat * 1)) = some (Value.int .i64 x5) ∧ nz a_0.p fun a6 => (0 ≤ i_6 ∧ i_6 < (a_0.l : Nat)) ∧ ∃ x7 : Int, w3.cell? (a6.add (i_6.toNat * 1)) = some (Value.int .i64 x7) ∧ nz b_1.p fun a8 => (0 ≤ k_8 ∧ k_8 < (b_1.l : Nat)) ∧ ∃ x9 : Int, w3.cell? (a8.add (k_8.toNat * 1)) = some (Value.int .i64 x9) ∧ inR .i64 (x7 * x9) ∧ inR .i64 (x5 + (x7 * x9)) ∧ inR .i64 ((x5 + (x7 * x9)) + carry_7) ∧ inR .i64 (i_6 + k_8) ∧ (65536 : Int) ≠ 0 ∧ nz out_5.p fun a10 => (0 ≤ (i_6 + k_8) ∧ (i_6 + k_8) < (out_5.l : Nat)) ∧ wrOk w3 (a10.add ((i_6 + k_8).toNat * 1)) ∧ 
  (let w11 : World := w3.setCell (a10.add ((i_6 + k_8).toNat * 1)) (Value.int .i64 (Int.tmod ((x5 + (x7 * x9)) + carry_7) (65536 : Int)))
  (65536 : Int) ≠ 0 ∧ inR .i64 (Int.tdiv ((x5 + (x7 * x9)) + carry_7) (65536 : Int)) ∧ inR .i64 (k_8 + (1 : Int)) ∧ N1 a_0 b_1 out_5 i_6 (Int.tdiv ((x5 + (x7 * x9)) + carry_7) (65536 : Int)) (k_8 + (1 : Int)) w11))
    (inR .i64 (i_6 + (b_1.l : Int)) ∧ nz out_5.p fun a12 => (0 ≤ (i_6 + (b_1.l : Int)) ∧ (i_6 + (b_1.l : Int)) < (out_5.l : Nat)) ∧ wrOk w (a12.add ((i_6 + (b_1.l : Int)).toNat * 1)) ∧ 
  (let w13 : World := w.setCell (a12.add ((i_6 + (b_1.l : Int)).toNat * 1)) (Value.int .i64 carry_7)
  inR .i64 (i_6 + (1 : Int)) ∧ N0 a_0 b_1 out_5 (i_6 + (1 : Int)) w13))
def probityref01_times_l1d (a_0 : Sl) (b_1 : Sl) (out_5 : Sl) (i_6 : Int) (carry_7 : Int) (k_8 : Int) (N0 : Sl → Sl → Sl → Int → World → Prop) (K : Sl → World → Prop) (w : World) : Prop :=
  ∃ (I : Int → Int → World → Prop) (μ : Int → Int → World → Nat), I carry_7 k_8 w ∧ ∀ (carry_71 : Int) (k_81 : Int) (w1 : World), I carry_71 k_81 w1 →
    probityref01_times_b1 a_0 b_1 out_5 i_6 carry_71 k_81 (fun (a_0' : Sl) (b_1' : Sl) (out_5' : Sl) (i_6' : Int) (carry_7' : Int) (k_8' : Int) (w' : World) => ((a_0' = a_0 ∧ b_1' = b_1 ∧ out_5' = out_5 ∧ i_6' = i_6 ∧ True) ∧ I carry_7' k_8' w') ∧ μ carry_7' k_8' w' < μ carry_71 k_81 w1) N0 K w1
structure probityref01_times_l1 (a_0 : Sl) (b_1 : Sl) (out_5 : Sl) (i_6 : Int) (carry_7 : Int) (k_8 : Int) (N0 : Sl → Sl → Sl → Int → World → Prop) (K : Sl → World → Prop) (w : World) : Prop where
  out : probityref01_times_l1d a_0 b_1 out_5 i_6 carry_7 k_8 N0 K w

def probityref01_times_b0 (a_0 : Sl) (b_1 : Sl) (out_5 : Sl) (i_6 : Int) (N0 : Sl → Sl → Sl → Int → World → Prop)  (K : Sl → World → Prop) (w : World) : Prop :=
  cnd (decide (i_6 < (a_0.l : Int)))
    (probityref01_times_l1 a_0 b_1 out_5 i_6 (0 : Int) (0 : Int) N0 K w)
    (probityref01_trim_sh out_5 (fun (r15 : Sl) (w14 : World) => K r15 w14) w)
def probityref01_times_l0d (a_0 : Sl) (b_1 : Sl) (out_5 : Sl) (i_6 : Int)  (K : Sl → World → Prop) (w : World) : Prop :=
  ∃ (I : Int → World → Prop) (μ : Int → World → Nat), I i_6 w ∧ ∀ (i_61 : Int) (w1 : World), I i_61 w1 →
    probityref01_times_b0 a_0 b_1 out_5 i_61 (fun (a_0' : Sl) (b_1' : Sl) (out_5' : Sl) (i_6' : Int) (w' : World) => ((a_0' = a_0 ∧ b_1' = b_1 ∧ out_5' = out_5 ∧ True) ∧ I i_6' w') ∧ μ i_6' w' < μ i_61 w1)  K w1
structure probityref01_times_l0 (a_0 : Sl) (b_1 : Sl) (out_5 : Sl) (i_6 : Int)  (K : Sl → World → Prop) (w : World) : Prop where
  out : probityref01_times_l0d a_0 b_1 out_5 i_6 K w

def probityref01_times_sd (a_0 : Sl) (b_1 : Sl) (K : Sl → World → Prop) (w : World) : Prop :=
  inR .i64 ((a_0.l : Int) + (b_1.l : Int)) ∧ mkS 8 [(Value.int .i64 (0 : Int))] 3 ((a_0.l : Int) + (b_1.l : Int)) ((a_0.l : Int) + (b_1.l : Int)) w fun (s1 : Sl) (w2 : World) => probityref01_times_l0 a_0 b_1 s1 (0 : Int) K w2

structure probityref01_times_sh (a_0 : Sl) (b_1 : Sl) (K : Sl → World → Prop) (w : World) : Prop where
  out : probityref01_times_sd a_0 b_1 K w

def probityref01_times_P0 (Kv : VW) (ρ : Rho) (vs : List Value) (w : World) : Prop :=
  match ρ, vs with
  | _, [.slice a_0p a_0l a_0c, .slice b_1p b_1l b_1c, .slice out_5p out_5l out_5c, .int .i64 i_6] => probityref01_times_l0 ⟨a_0p, a_0l, a_0c⟩ ⟨b_1p, b_1l, b_1c⟩ ⟨out_5p, out_5l, out_5c⟩ i_6  (fun (r0 : Sl) (w' : World) => Kv (Value.slice r0.p r0.l r0.c) w') w
  | _, _ => False

def probityref01_times_P1 (Kv : VW) (ρ : Rho) (vs : List Value) (w : World) : Prop :=
  match ρ, vs with
  | N0 :: _, [.slice a_0p a_0l a_0c, .slice b_1p b_1l b_1c, .slice out_5p out_5l out_5c, .int .i64 i_6, .int .i64 carry_7, .int .i64 k_8] => probityref01_times_l1 ⟨a_0p, a_0l, a_0c⟩ ⟨b_1p, b_1l, b_1c⟩ ⟨out_5p, out_5l, out_5c⟩ i_6 carry_7 k_8 (fun (a_0' : Sl) (b_1' : Sl) (out_5' : Sl) (i_6' : Int) (w' : World) => N0 [(Value.slice a_0'.p a_0'.l a_0'.c), (Value.slice b_1'.p b_1'.l b_1'.c), (Value.slice out_5'.p out_5'.l out_5'.c), (Value.int .i64 i_6')] w') (fun (r0 : Sl) (w' : World) => Kv (Value.slice r0.p r0.l r0.c) w') w
  | _, _ => False

noncomputable def probityref01_times_S : Pw.Spec := fun vs w Kv =>
  match vs with
  | [.slice a_0p a_0l a_0c, .slice b_1p b_1l b_1c] => probityref01_times_sh ⟨a_0p, a_0l, a_0c⟩ ⟨b_1p, b_1l, b_1c⟩ (fun (r0 : Sl) (w' : World) => Kv (Value.slice r0.p r0.l r0.c) w') w
  | _ => False

noncomputable def probityref01_times_E : Pw.Env := [(66, probityref01_trim_S)]

noncomputable def probityref01_times_C : Code := (Tryz.f88.body).getD .skip

noncomputable def probityref01_times_A (Kv : VW) : Pw.A :=
  (A.seq (A.reg (RA.run RA.done))
   (A.seq (A.reg (RA.run (RA.run (RA.run (RA.run (RA.run (RA.run (RA.run RA.done))))))))
   (A.seq (A.seq (A.reg (RA.run RA.done))
   (A.blk (A.loop [0, 1, 5, 6] (probityref01_times_P0 Kv) (A.seq (A.seq (A.reg (RA.run (RA.run (RA.run (RA.run RA.done)))))
   (A.cond A.leaf
   A.leaf))
   (A.seq (A.blk (A.seq (A.reg (RA.run RA.done))
   (A.seq (A.seq (A.reg (RA.run RA.done))
   (A.blk (A.loop [0, 1, 5, 6, 7, 8] (probityref01_times_P1 Kv) (A.seq (A.seq (A.reg (RA.run (RA.run (RA.run (RA.run RA.done)))))
   (A.cond A.leaf
   A.leaf))
   (A.seq (A.blk (A.seq (A.drp (DA.pur 0 (DA.pur 1 (DA.pur 2 (DA.pur 3 (DA.pur 4 (DA.pur 5 (DA.pur 6 (DA.pur 7 (DA.pur 8 (DA.pur 9 (DA.pur 10 (DA.pur 11 (DA.pur 12 (DA.pur 13 (DA.pur 14 (DA.pur 15 (DA.pur 16 (DA.pur 17 (DA.pur 18 DA.done))))))))))))))))))))
   (A.seq (A.reg (RA.run (RA.run (RA.run (RA.run (RA.run (RA.run (RA.run (RA.run RA.done)))))))))
   (A.reg (RA.run (RA.run (RA.run RA.done)))))))
   (A.reg (RA.run (RA.run (RA.run RA.done)))))))))
   (A.reg (RA.run (RA.run (RA.run (RA.run (RA.run (RA.run (RA.run (RA.run RA.done))))))))))))
   (A.reg (RA.run (RA.run (RA.run RA.done)))))))))
   (A.seq (A.reg (RA.run (RA.run (RA.run RA.done))))
   A.leaf))))

noncomputable def probityref01_times_O (Kv : VW) : List Ob := (obs Tryz.prog probityref01_times_E 64 (probityref01_times_A Kv) probityref01_times_C (fun _ => retQ Tryz.prog Tryz.f88.results Kv))

theorem probityref01_times_e (Kv : VW) (a_0p : Option Addr) (a_0l a_0c : Nat) (b_1p : Option Addr) (b_1l b_1c : Nat) (w : World) : probityref01_times_sd ⟨a_0p, a_0l, a_0c⟩ ⟨b_1p, b_1l, b_1c⟩ (fun (r0 : Sl) (w' : World) => Kv (Value.slice r0.p r0.l r0.c) w') w = W Tryz.prog probityref01_times_E 64 (probityref01_times_A Kv) probityref01_times_C [] (retQ Tryz.prog Tryz.f88.results Kv) [] (startS [(Value.slice a_0p a_0l a_0c), (Value.slice b_1p b_1l b_1c)]) w := by kernel_rfl

theorem probityref01_times_e0 (Kv : VW) (N0 : List Value → World → Prop) (ρ : Rho) (a_0p : Option Addr) (a_0l a_0c : Nat) (b_1p : Option Addr) (b_1l b_1c : Nat) (out_5p : Option Addr) (out_5l out_5c : Nat) (i_6 : Int) (w : World) : probityref01_times_b0 ⟨a_0p, a_0l, a_0c⟩ ⟨b_1p, b_1l, b_1c⟩ ⟨out_5p, out_5l, out_5c⟩ i_6 (fun (a_0' : Sl) (b_1' : Sl) (out_5' : Sl) (i_6' : Int) (w' : World) => N0 [(Value.slice a_0'.p a_0'.l a_0'.c), (Value.slice b_1'.p b_1'.l b_1'.c), (Value.slice out_5'.p out_5'.l out_5'.c), (Value.int .i64 i_6')] w')  (fun (r0 : Sl) (w' : World) => Kv (Value.slice r0.p r0.l r0.c) w') w = goalAt Tryz.prog probityref01_times_E 64 (probityref01_times_O Kv) 0 (N0 :: ρ) [(Value.slice a_0p a_0l a_0c), (Value.slice b_1p b_1l b_1c), (Value.slice out_5p out_5l out_5c), (Value.int .i64 i_6)] w := by kernel_rfl

theorem probityref01_times_q0 (Kv : VW) (ρ : Rho) (vs : List Value) (w : World) : labAt (probityref01_times_O Kv) 0 ρ vs w = probityref01_times_P0 Kv ρ vs w := by kernel_rfl

def probityref01_times_I0 (a_00 : Sl) (b_10 : Sl) (out_50 : Sl) (I : Int → World → Prop) (vs : List Value) (w : World) : Prop :=
  match vs with
  | [.slice a_0p a_0l a_0c, .slice b_1p b_1l b_1c, .slice out_5p out_5l out_5c, .int .i64 i_6] => (⟨a_0p, a_0l, a_0c⟩ = a_00 ∧ ⟨b_1p, b_1l, b_1c⟩ = b_10 ∧ ⟨out_5p, out_5l, out_5c⟩ = out_50 ∧ True) ∧ I i_6 w
  | _ => False

def probityref01_times_M0 (μ : Int → World → Nat) (vs : List Value) (w : World) : Nat :=
  match vs with
  | [.slice _a_0p _a_0l _a_0c, .slice _b_1p _b_1l _b_1c, .slice _out_5p _out_5l _out_5c, .int .i64 i_6] => μ i_6 w
  | _ => 0

theorem probityref01_times_h0 (Kv : VW) : holdsAt Tryz.prog probityref01_times_E 64 (probityref01_times_O Kv) 0 := holdsAt_loop (by kernel_rfl) (fun ρ vs w h => by
  rw [probityref01_times_q0] at h
  unfold probityref01_times_P0 at h
  split at h
  · rename_i ρt a_0p a_0l a_0c b_1p b_1l b_1c out_5p out_5l out_5c i_6
    obtain ⟨I, μ, h0, hr⟩ := h.out
    refine ⟨probityref01_times_I0 ⟨a_0p, a_0l, a_0c⟩ ⟨b_1p, b_1l, b_1c⟩ ⟨out_5p, out_5l, out_5c⟩ I, probityref01_times_M0 μ, ⟨⟨rfl, rfl, rfl, trivial⟩, h0⟩, fun vs w hI => ?_⟩
    unfold probityref01_times_I0 at hI
    split at hI
    · obtain ⟨⟨h0, h1, h2, _⟩, hI⟩ := hI
      cases h0; cases h1; cases h2
      rw [← probityref01_times_e0]
      exact hr _ _ hI
    · exact hI.elim
  · exact h.elim)

theorem probityref01_times_e1 (Kv : VW) (N1 N0 : List Value → World → Prop) (ρ : Rho) (a_0p : Option Addr) (a_0l a_0c : Nat) (b_1p : Option Addr) (b_1l b_1c : Nat) (out_5p : Option Addr) (out_5l out_5c : Nat) (i_6 : Int) (carry_7 : Int) (k_8 : Int) (w : World) : probityref01_times_b1 ⟨a_0p, a_0l, a_0c⟩ ⟨b_1p, b_1l, b_1c⟩ ⟨out_5p, out_5l, out_5c⟩ i_6 carry_7 k_8 (fun (a_0' : Sl) (b_1' : Sl) (out_5' : Sl) (i_6' : Int) (carry_7' : Int) (k_8' : Int) (w' : World) => N1 [(Value.slice a_0'.p a_0'.l a_0'.c), (Value.slice b_1'.p b_1'.l b_1'.c), (Value.slice out_5'.p out_5'.l out_5'.c), (Value.int .i64 i_6'), (Value.int .i64 carry_7'), (Value.int .i64 k_8')] w') (fun (a_0' : Sl) (b_1' : Sl) (out_5' : Sl) (i_6' : Int) (w' : World) => N0 [(Value.slice a_0'.p a_0'.l a_0'.c), (Value.slice b_1'.p b_1'.l b_1'.c), (Value.slice out_5'.p out_5'.l out_5'.c), (Value.int .i64 i_6')] w') (fun (r0 : Sl) (w' : World) => Kv (Value.slice r0.p r0.l r0.c) w') w = goalAt Tryz.prog probityref01_times_E 64 (probityref01_times_O Kv) 1 (N1 :: N0 :: ρ) [(Value.slice a_0p a_0l a_0c), (Value.slice b_1p b_1l b_1c), (Value.slice out_5p out_5l out_5c), (Value.int .i64 i_6), (Value.int .i64 carry_7), (Value.int .i64 k_8)] w := by kernel_rfl

theorem probityref01_times_q1 (Kv : VW) (ρ : Rho) (vs : List Value) (w : World) : labAt (probityref01_times_O Kv) 1 ρ vs w = probityref01_times_P1 Kv ρ vs w := by kernel_rfl

def probityref01_times_I1 (a_00 : Sl) (b_10 : Sl) (out_50 : Sl) (i_60 : Int) (I : Int → Int → World → Prop) (vs : List Value) (w : World) : Prop :=
  match vs with
  | [.slice a_0p a_0l a_0c, .slice b_1p b_1l b_1c, .slice out_5p out_5l out_5c, .int .i64 i_6, .int .i64 carry_7, .int .i64 k_8] => (⟨a_0p, a_0l, a_0c⟩ = a_00 ∧ ⟨b_1p, b_1l, b_1c⟩ = b_10 ∧ ⟨out_5p, out_5l, out_5c⟩ = out_50 ∧ i_6 = i_60 ∧ True) ∧ I carry_7 k_8 w
  | _ => False

def probityref01_times_M1 (μ : Int → Int → World → Nat) (vs : List Value) (w : World) : Nat :=
  match vs with
  | [.slice _a_0p _a_0l _a_0c, .slice _b_1p _b_1l _b_1c, .slice _out_5p _out_5l _out_5c, .int .i64 _i_6, .int .i64 carry_7, .int .i64 k_8] => μ carry_7 k_8 w
  | _ => 0

theorem probityref01_times_h1 (Kv : VW) : holdsAt Tryz.prog probityref01_times_E 64 (probityref01_times_O Kv) 1 := holdsAt_loop (by kernel_rfl) (fun ρ vs w h => by
  rw [probityref01_times_q1] at h
  unfold probityref01_times_P1 at h
  split at h
  · rename_i N0 ρt a_0p a_0l a_0c b_1p b_1l b_1c out_5p out_5l out_5c i_6 carry_7 k_8
    obtain ⟨I, μ, h0, hr⟩ := h.out
    refine ⟨probityref01_times_I1 ⟨a_0p, a_0l, a_0c⟩ ⟨b_1p, b_1l, b_1c⟩ ⟨out_5p, out_5l, out_5c⟩ i_6 I, probityref01_times_M1 μ, ⟨⟨rfl, rfl, rfl, rfl, trivial⟩, h0⟩, fun vs w hI => ?_⟩
    unfold probityref01_times_I1 at hI
    split at hI
    · obtain ⟨⟨h0, h1, h2, h3, _⟩, hI⟩ := hI
      cases h0; cases h1; cases h2; cases h3
      rw [← probityref01_times_e1]
      exact hr _ _ _ hI
    · exact hI.elim
  · exact h.elim)

theorem probityref01_times_n (Kv : VW) : obAt (probityref01_times_O Kv) 2 = none := by kernel_rfl

theorem probityref01_times_h (Kv : VW) : ∀ k, holdsAt Tryz.prog probityref01_times_E 64 (probityref01_times_O Kv) k := fun k => match k with
  | 0 => probityref01_times_h0 Kv
  | 1 => probityref01_times_h1 Kv
  | _k + 2 => holdsAt_ge (probityref01_times_n Kv) (Nat.le_add_left _ _)

theorem probityref01_times_ok : Sound Tryz.prog 88 probityref01_times_S := ⟨Tryz.call88, fun vs w Kv h => by
  unfold probityref01_times_S at h
  split at h
  · have h := h.out
    rw [probityref01_times_e] at h
    exact calls_sound (Γ := probityref01_times_E) progMixed ⟨.inl probityref01_trim_ok, trivial⟩ Tryz.func88 (code := probityref01_times_C) (by kernel_rfl) (probityref01_times_A Kv) Kv (holds_all (probityref01_times_h Kv)) (Nat.le_of_ble_eq_true (by kernel_rfl)) h
  · exact h.elim⟩

/-! probityref01_by -/
def probityref01_by_sd (a_0 : Sl) (d_1 : Int) (K : Sl → World → Prop) (w : World) : Prop :=
  let w1 : World := w.alloc (Obj.cells #[(Value.int .i64 d_1)] 3)
  probityref01_times_sh a_0 (Sl.mk (some (Addr.mk w.heap.size 0 none)) 1 1) (fun (r3 : Sl) (w2 : World) => K r3 w2) w1

structure probityref01_by_sh (a_0 : Sl) (d_1 : Int) (K : Sl → World → Prop) (w : World) : Prop where
  out : probityref01_by_sd a_0 d_1 K w

noncomputable def probityref01_by_S : Pw.Spec := fun vs w Kv =>
  match vs with
  | [.slice a_0p a_0l a_0c, .int .i64 d_1] => probityref01_by_sh ⟨a_0p, a_0l, a_0c⟩ d_1 (fun (r0 : Sl) (w' : World) => Kv (Value.slice r0.p r0.l r0.c) w') w
  | _ => False

noncomputable def probityref01_by_E : Pw.Env := [(88, probityref01_times_S)]

noncomputable def probityref01_by_C : Code := (Tryz.f93.body).getD .skip

noncomputable def probityref01_by_A (_Kv : VW) : Pw.A :=
  (A.seq (A.reg (RA.run RA.done))
   (A.seq (A.reg (RA.run (RA.run (RA.run (RA.run (RA.run RA.done))))))
   A.leaf))

noncomputable def probityref01_by_O (Kv : VW) : List Ob := (obs Tryz.prog probityref01_by_E 9 (probityref01_by_A Kv) probityref01_by_C (fun _ => retQ Tryz.prog Tryz.f93.results Kv))

theorem probityref01_by_e (Kv : VW) (a_0p : Option Addr) (a_0l a_0c : Nat) (d_1 : Int) (w : World) : probityref01_by_sd ⟨a_0p, a_0l, a_0c⟩ d_1 (fun (r0 : Sl) (w' : World) => Kv (Value.slice r0.p r0.l r0.c) w') w = W Tryz.prog probityref01_by_E 9 (probityref01_by_A Kv) probityref01_by_C [] (retQ Tryz.prog Tryz.f93.results Kv) [] (startS [(Value.slice a_0p a_0l a_0c), (Value.int .i64 d_1)]) w := by kernel_rfl

theorem probityref01_by_n (Kv : VW) : obAt (probityref01_by_O Kv) 0 = none := by kernel_rfl

theorem probityref01_by_h (Kv : VW) : ∀ k, holdsAt Tryz.prog probityref01_by_E 9 (probityref01_by_O Kv) k := fun _ => holdsAt_ge (probityref01_by_n Kv) (Nat.zero_le _)

theorem probityref01_by_ok : Sound Tryz.prog 93 probityref01_by_S := ⟨Tryz.call93, fun vs w Kv h => by
  unfold probityref01_by_S at h
  split at h
  · have h := h.out
    rw [probityref01_by_e] at h
    exact calls_sound (Γ := probityref01_by_E) progMixed ⟨.inl probityref01_times_ok, trivial⟩ Tryz.func93 (code := probityref01_by_C) (by kernel_rfl) (probityref01_by_A Kv) Kv (holds_all (probityref01_by_h Kv)) (Nat.le_of_ble_eq_true (by kernel_rfl)) h
  · exact h.elim⟩

/-! probityref01_minus -/
def probityref01_minus_k2d (a_0 : Sl) (b_1 : Sl) (out_5 : Sl) (borrow_6 : Int) (i_7 : Int) (d_8 : Int) (N0 : Sl → Sl → Sl → Int → Int → World → Prop) (_K : Sl → World → Prop) (w : World) : Prop :=
  let w5 : World := w.alloc (Obj.cells #[(Value.int .i64 d_8)] 3)
  apS 1 8 [(Value.int .i64 (0 : Int))] 3 out_5 (Sl.mk (some (Addr.mk w.heap.size 0 none)) 1 1) w5 fun (s6 : Sl) (w7 : World) => inR .i64 (i_7 + (1 : Int)) ∧ N0 a_0 b_1 s6 borrow_6 (i_7 + (1 : Int)) w7
structure probityref01_minus_k2 (a_0 : Sl) (b_1 : Sl) (out_5 : Sl) (borrow_6 : Int) (i_7 : Int) (d_8 : Int) (N0 : Sl → Sl → Sl → Int → Int → World → Prop) (K : Sl → World → Prop) (w : World) : Prop where
  out : probityref01_minus_k2d a_0 b_1 out_5 borrow_6 i_7 d_8 N0 K w

def probityref01_minus_k1d (a_0 : Sl) (b_1 : Sl) (out_5 : Sl) (i_7 : Int) (d_8 : Int) (N0 : Sl → Sl → Sl → Int → Int → World → Prop) (K : Sl → World → Prop) (w : World) : Prop :=
  cnd (decide (d_8 < (0 : Int)))
    (inR .i64 (d_8 + (65536 : Int)) ∧ probityref01_minus_k2 a_0 b_1 out_5 (1 : Int) i_7 (d_8 + (65536 : Int)) N0 K w)
    (probityref01_minus_k2 a_0 b_1 out_5 (0 : Int) i_7 d_8 N0 K w)
structure probityref01_minus_k1 (a_0 : Sl) (b_1 : Sl) (out_5 : Sl) (i_7 : Int) (d_8 : Int) (N0 : Sl → Sl → Sl → Int → Int → World → Prop) (K : Sl → World → Prop) (w : World) : Prop where
  out : probityref01_minus_k1d a_0 b_1 out_5 i_7 d_8 N0 K w

def probityref01_minus_b0 (a_0 : Sl) (b_1 : Sl) (out_5 : Sl) (borrow_6 : Int) (i_7 : Int) (N0 : Sl → Sl → Sl → Int → Int → World → Prop)  (K : Sl → World → Prop) (w : World) : Prop :=
  cnd (decide (i_7 < (a_0.l : Int)))
    (nz a_0.p fun a1 => (0 ≤ i_7 ∧ i_7 < (a_0.l : Nat)) ∧ ∃ x2 : Int, w.cell? (a1.add (i_7.toNat * 1)) = some (Value.int .i64 x2) ∧ inR .i64 (x2 - borrow_6) ∧ cnd (decide (i_7 < (b_1.l : Int)))
    (nz b_1.p fun a3 => (0 ≤ i_7 ∧ i_7 < (b_1.l : Nat)) ∧ ∃ x4 : Int, w.cell? (a3.add (i_7.toNat * 1)) = some (Value.int .i64 x4) ∧ inR .i64 ((x2 - borrow_6) - x4) ∧ probityref01_minus_k1 a_0 b_1 out_5 i_7 ((x2 - borrow_6) - x4) N0 K w)
    (probityref01_minus_k1 a_0 b_1 out_5 i_7 (x2 - borrow_6) N0 K w))
    (probityref01_trim_sh out_5 (fun (r9 : Sl) (w8 : World) => K r9 w8) w)
def probityref01_minus_l0d (a_0 : Sl) (b_1 : Sl) (out_5 : Sl) (borrow_6 : Int) (i_7 : Int)  (K : Sl → World → Prop) (w : World) : Prop :=
  ∃ (I : Sl → Int → Int → World → Prop) (μ : Sl → Int → Int → World → Nat), I out_5 borrow_6 i_7 w ∧ ∀ (out_51 : Sl) (borrow_61 : Int) (i_71 : Int) (w1 : World), I out_51 borrow_61 i_71 w1 →
    probityref01_minus_b0 a_0 b_1 out_51 borrow_61 i_71 (fun (a_0' : Sl) (b_1' : Sl) (out_5' : Sl) (borrow_6' : Int) (i_7' : Int) (w' : World) => ((a_0' = a_0 ∧ b_1' = b_1 ∧ True) ∧ I out_5' borrow_6' i_7' w') ∧ μ out_5' borrow_6' i_7' w' < μ out_51 borrow_61 i_71 w1)  K w1
structure probityref01_minus_l0 (a_0 : Sl) (b_1 : Sl) (out_5 : Sl) (borrow_6 : Int) (i_7 : Int)  (K : Sl → World → Prop) (w : World) : Prop where
  out : probityref01_minus_l0d a_0 b_1 out_5 borrow_6 i_7 K w

def probityref01_minus_sd (a_0 : Sl) (b_1 : Sl) (K : Sl → World → Prop) (w : World) : Prop :=
  probityref01_minus_l0 a_0 b_1 (Sl.mk none 0 0) (0 : Int) (0 : Int) K w

structure probityref01_minus_sh (a_0 : Sl) (b_1 : Sl) (K : Sl → World → Prop) (w : World) : Prop where
  out : probityref01_minus_sd a_0 b_1 K w

def probityref01_minus_P0 (Kv : VW) (ρ : Rho) (vs : List Value) (w : World) : Prop :=
  match ρ, vs with
  | _, [.slice a_0p a_0l a_0c, .slice b_1p b_1l b_1c, .slice out_5p out_5l out_5c, .int .i64 borrow_6, .int .i64 i_7] => probityref01_minus_l0 ⟨a_0p, a_0l, a_0c⟩ ⟨b_1p, b_1l, b_1c⟩ ⟨out_5p, out_5l, out_5c⟩ borrow_6 i_7  (fun (r0 : Sl) (w' : World) => Kv (Value.slice r0.p r0.l r0.c) w') w
  | _, _ => False

def probityref01_minus_P1 (Kv : VW) (ρ : Rho) (vs : List Value) (w : World) : Prop :=
  match ρ, vs with
  | N0 :: _, [.slice a_0p a_0l a_0c, .slice b_1p b_1l b_1c, .slice out_5p out_5l out_5c, .int .i64 i_7, .int .i64 d_8] => probityref01_minus_k1 ⟨a_0p, a_0l, a_0c⟩ ⟨b_1p, b_1l, b_1c⟩ ⟨out_5p, out_5l, out_5c⟩ i_7 d_8 (fun (a_0' : Sl) (b_1' : Sl) (out_5' : Sl) (borrow_6' : Int) (i_7' : Int) (w' : World) => N0 [(Value.slice a_0'.p a_0'.l a_0'.c), (Value.slice b_1'.p b_1'.l b_1'.c), (Value.slice out_5'.p out_5'.l out_5'.c), (Value.int .i64 borrow_6'), (Value.int .i64 i_7')] w') (fun (r0 : Sl) (w' : World) => Kv (Value.slice r0.p r0.l r0.c) w') w
  | _, _ => False

def probityref01_minus_P2 (Kv : VW) (ρ : Rho) (vs : List Value) (w : World) : Prop :=
  match ρ, vs with
  | N0 :: _, [.slice a_0p a_0l a_0c, .slice b_1p b_1l b_1c, .slice out_5p out_5l out_5c, .int .i64 borrow_6, .int .i64 i_7, .int .i64 d_8] => probityref01_minus_k2 ⟨a_0p, a_0l, a_0c⟩ ⟨b_1p, b_1l, b_1c⟩ ⟨out_5p, out_5l, out_5c⟩ borrow_6 i_7 d_8 (fun (a_0' : Sl) (b_1' : Sl) (out_5' : Sl) (borrow_6' : Int) (i_7' : Int) (w' : World) => N0 [(Value.slice a_0'.p a_0'.l a_0'.c), (Value.slice b_1'.p b_1'.l b_1'.c), (Value.slice out_5'.p out_5'.l out_5'.c), (Value.int .i64 borrow_6'), (Value.int .i64 i_7')] w') (fun (r0 : Sl) (w' : World) => Kv (Value.slice r0.p r0.l r0.c) w') w
  | _, _ => False

noncomputable def probityref01_minus_S : Pw.Spec := fun vs w Kv =>
  match vs with
  | [.slice a_0p a_0l a_0c, .slice b_1p b_1l b_1c] => probityref01_minus_sh ⟨a_0p, a_0l, a_0c⟩ ⟨b_1p, b_1l, b_1c⟩ (fun (r0 : Sl) (w' : World) => Kv (Value.slice r0.p r0.l r0.c) w') w
  | _ => False

noncomputable def probityref01_minus_E : Pw.Env := [(66, probityref01_trim_S)]

noncomputable def probityref01_minus_C : Code := (Tryz.f87.body).getD .skip

noncomputable def probityref01_minus_A (Kv : VW) : Pw.A :=
  (A.seq (A.reg (RA.run RA.done))
   (A.seq (A.reg (RA.run RA.done))
   (A.seq (A.reg (RA.run RA.done))
   (A.seq (A.seq (A.reg (RA.run RA.done))
   (A.blk (A.loop [0, 1, 5, 6, 7] (probityref01_minus_P0 Kv) (A.seq (A.seq (A.reg (RA.run (RA.run (RA.run (RA.run RA.done)))))
   (A.cond A.leaf
   A.leaf))
   (A.seq (A.blk (A.seq (A.reg (RA.run (RA.run (RA.run (RA.run (RA.run (RA.run (RA.run RA.done))))))))
   (A.seq (A.seq (A.reg (RA.run (RA.run (RA.run (RA.run RA.done)))))
   (A.cond (A.reg (RA.run (RA.run (RA.run (RA.run (RA.run (RA.run (RA.run RA.done))))))))
   A.leaf))
   (A.cut [0, 1, 5, 7, 8] (probityref01_minus_P1 Kv) (A.seq (A.reg (RA.run RA.done))
   (A.seq (A.seq (A.reg (RA.run (RA.run RA.done)))
   (A.cond (A.seq (A.reg (RA.run (RA.run (RA.run RA.done))))
   (A.reg (RA.run RA.done)))
   A.leaf))
   (A.cut [0, 1, 5, 6, 7, 8] (probityref01_minus_P2 Kv) (A.reg (RA.run (RA.run (RA.run (RA.run (RA.run RA.done)))))))))))))
   (A.reg (RA.run (RA.run (RA.run RA.done)))))))))
   (A.seq (A.reg (RA.run (RA.run (RA.run RA.done))))
   A.leaf)))))

noncomputable def probityref01_minus_O (Kv : VW) : List Ob := (obs Tryz.prog probityref01_minus_E 41 (probityref01_minus_A Kv) probityref01_minus_C (fun _ => retQ Tryz.prog Tryz.f87.results Kv))

theorem probityref01_minus_e (Kv : VW) (a_0p : Option Addr) (a_0l a_0c : Nat) (b_1p : Option Addr) (b_1l b_1c : Nat) (w : World) : probityref01_minus_sd ⟨a_0p, a_0l, a_0c⟩ ⟨b_1p, b_1l, b_1c⟩ (fun (r0 : Sl) (w' : World) => Kv (Value.slice r0.p r0.l r0.c) w') w = W Tryz.prog probityref01_minus_E 41 (probityref01_minus_A Kv) probityref01_minus_C [] (retQ Tryz.prog Tryz.f87.results Kv) [] (startS [(Value.slice a_0p a_0l a_0c), (Value.slice b_1p b_1l b_1c)]) w := by kernel_rfl

theorem probityref01_minus_e0 (Kv : VW) (N0 : List Value → World → Prop) (ρ : Rho) (a_0p : Option Addr) (a_0l a_0c : Nat) (b_1p : Option Addr) (b_1l b_1c : Nat) (out_5p : Option Addr) (out_5l out_5c : Nat) (borrow_6 : Int) (i_7 : Int) (w : World) : probityref01_minus_b0 ⟨a_0p, a_0l, a_0c⟩ ⟨b_1p, b_1l, b_1c⟩ ⟨out_5p, out_5l, out_5c⟩ borrow_6 i_7 (fun (a_0' : Sl) (b_1' : Sl) (out_5' : Sl) (borrow_6' : Int) (i_7' : Int) (w' : World) => N0 [(Value.slice a_0'.p a_0'.l a_0'.c), (Value.slice b_1'.p b_1'.l b_1'.c), (Value.slice out_5'.p out_5'.l out_5'.c), (Value.int .i64 borrow_6'), (Value.int .i64 i_7')] w')  (fun (r0 : Sl) (w' : World) => Kv (Value.slice r0.p r0.l r0.c) w') w = goalAt Tryz.prog probityref01_minus_E 41 (probityref01_minus_O Kv) 0 (N0 :: ρ) [(Value.slice a_0p a_0l a_0c), (Value.slice b_1p b_1l b_1c), (Value.slice out_5p out_5l out_5c), (Value.int .i64 borrow_6), (Value.int .i64 i_7)] w := by kernel_rfl

theorem probityref01_minus_q0 (Kv : VW) (ρ : Rho) (vs : List Value) (w : World) : labAt (probityref01_minus_O Kv) 0 ρ vs w = probityref01_minus_P0 Kv ρ vs w := by kernel_rfl

def probityref01_minus_I0 (a_00 : Sl) (b_10 : Sl) (I : Sl → Int → Int → World → Prop) (vs : List Value) (w : World) : Prop :=
  match vs with
  | [.slice a_0p a_0l a_0c, .slice b_1p b_1l b_1c, .slice out_5p out_5l out_5c, .int .i64 borrow_6, .int .i64 i_7] => (⟨a_0p, a_0l, a_0c⟩ = a_00 ∧ ⟨b_1p, b_1l, b_1c⟩ = b_10 ∧ True) ∧ I ⟨out_5p, out_5l, out_5c⟩ borrow_6 i_7 w
  | _ => False

def probityref01_minus_M0 (μ : Sl → Int → Int → World → Nat) (vs : List Value) (w : World) : Nat :=
  match vs with
  | [.slice _a_0p _a_0l _a_0c, .slice _b_1p _b_1l _b_1c, .slice out_5p out_5l out_5c, .int .i64 borrow_6, .int .i64 i_7] => μ ⟨out_5p, out_5l, out_5c⟩ borrow_6 i_7 w
  | _ => 0

theorem probityref01_minus_h0 (Kv : VW) : holdsAt Tryz.prog probityref01_minus_E 41 (probityref01_minus_O Kv) 0 := holdsAt_loop (by kernel_rfl) (fun ρ vs w h => by
  rw [probityref01_minus_q0] at h
  unfold probityref01_minus_P0 at h
  split at h
  · rename_i ρt a_0p a_0l a_0c b_1p b_1l b_1c out_5p out_5l out_5c borrow_6 i_7
    obtain ⟨I, μ, h0, hr⟩ := h.out
    refine ⟨probityref01_minus_I0 ⟨a_0p, a_0l, a_0c⟩ ⟨b_1p, b_1l, b_1c⟩ I, probityref01_minus_M0 μ, ⟨⟨rfl, rfl, trivial⟩, h0⟩, fun vs w hI => ?_⟩
    unfold probityref01_minus_I0 at hI
    split at hI
    · obtain ⟨⟨h0, h1, _⟩, hI⟩ := hI
      cases h0; cases h1
      rw [← probityref01_minus_e0]
      exact hr _ _ _ _ hI
    · exact hI.elim
  · exact h.elim)

theorem probityref01_minus_e1 (Kv : VW) (N0 : List Value → World → Prop) (ρ : Rho) (a_0p : Option Addr) (a_0l a_0c : Nat) (b_1p : Option Addr) (b_1l b_1c : Nat) (out_5p : Option Addr) (out_5l out_5c : Nat) (i_7 : Int) (d_8 : Int) (w : World) : probityref01_minus_k1d ⟨a_0p, a_0l, a_0c⟩ ⟨b_1p, b_1l, b_1c⟩ ⟨out_5p, out_5l, out_5c⟩ i_7 d_8 (fun (a_0' : Sl) (b_1' : Sl) (out_5' : Sl) (borrow_6' : Int) (i_7' : Int) (w' : World) => N0 [(Value.slice a_0'.p a_0'.l a_0'.c), (Value.slice b_1'.p b_1'.l b_1'.c), (Value.slice out_5'.p out_5'.l out_5'.c), (Value.int .i64 borrow_6'), (Value.int .i64 i_7')] w') (fun (r0 : Sl) (w' : World) => Kv (Value.slice r0.p r0.l r0.c) w') w = goalAt Tryz.prog probityref01_minus_E 41 (probityref01_minus_O Kv) 1 (N0 :: ρ) [(Value.slice a_0p a_0l a_0c), (Value.slice b_1p b_1l b_1c), (Value.slice out_5p out_5l out_5c), (Value.int .i64 i_7), (Value.int .i64 d_8)] w := by kernel_rfl

theorem probityref01_minus_q1 (Kv : VW) (ρ : Rho) (vs : List Value) (w : World) : labAt (probityref01_minus_O Kv) 1 ρ vs w = probityref01_minus_P1 Kv ρ vs w := by kernel_rfl

theorem probityref01_minus_h1 (Kv : VW) : holdsAt Tryz.prog probityref01_minus_E 41 (probityref01_minus_O Kv) 1 := holdsAt_cut (.inl (by kernel_rfl)) (fun ρ vs w h => by
  rw [probityref01_minus_q1] at h
  unfold probityref01_minus_P1 at h
  split at h
  · rw [← probityref01_minus_e1]; exact h.out
  · exact h.elim)

theorem probityref01_minus_e2 (Kv : VW) (N0 : List Value → World → Prop) (ρ : Rho) (a_0p : Option Addr) (a_0l a_0c : Nat) (b_1p : Option Addr) (b_1l b_1c : Nat) (out_5p : Option Addr) (out_5l out_5c : Nat) (borrow_6 : Int) (i_7 : Int) (d_8 : Int) (w : World) : probityref01_minus_k2d ⟨a_0p, a_0l, a_0c⟩ ⟨b_1p, b_1l, b_1c⟩ ⟨out_5p, out_5l, out_5c⟩ borrow_6 i_7 d_8 (fun (a_0' : Sl) (b_1' : Sl) (out_5' : Sl) (borrow_6' : Int) (i_7' : Int) (w' : World) => N0 [(Value.slice a_0'.p a_0'.l a_0'.c), (Value.slice b_1'.p b_1'.l b_1'.c), (Value.slice out_5'.p out_5'.l out_5'.c), (Value.int .i64 borrow_6'), (Value.int .i64 i_7')] w') (fun (r0 : Sl) (w' : World) => Kv (Value.slice r0.p r0.l r0.c) w') w = goalAt Tryz.prog probityref01_minus_E 41 (probityref01_minus_O Kv) 2 (N0 :: ρ) [(Value.slice a_0p a_0l a_0c), (Value.slice b_1p b_1l b_1c), (Value.slice out_5p out_5l out_5c), (Value.int .i64 borrow_6), (Value.int .i64 i_7), (Value.int .i64 d_8)] w := by kernel_rfl

theorem probityref01_minus_q2 (Kv : VW) (ρ : Rho) (vs : List Value) (w : World) : labAt (probityref01_minus_O Kv) 2 ρ vs w = probityref01_minus_P2 Kv ρ vs w := by kernel_rfl

theorem probityref01_minus_h2 (Kv : VW) : holdsAt Tryz.prog probityref01_minus_E 41 (probityref01_minus_O Kv) 2 := holdsAt_cut (.inl (by kernel_rfl)) (fun ρ vs w h => by
  rw [probityref01_minus_q2] at h
  unfold probityref01_minus_P2 at h
  split at h
  · rw [← probityref01_minus_e2]; exact h.out
  · exact h.elim)

theorem probityref01_minus_n (Kv : VW) : obAt (probityref01_minus_O Kv) 3 = none := by kernel_rfl

theorem probityref01_minus_h (Kv : VW) : ∀ k, holdsAt Tryz.prog probityref01_minus_E 41 (probityref01_minus_O Kv) k := fun k => match k with
  | 0 => probityref01_minus_h0 Kv
  | 1 => probityref01_minus_h1 Kv
  | 2 => probityref01_minus_h2 Kv
  | _k + 3 => holdsAt_ge (probityref01_minus_n Kv) (Nat.le_add_left _ _)

theorem probityref01_minus_ok : Sound Tryz.prog 87 probityref01_minus_S := ⟨Tryz.call87, fun vs w Kv h => by
  unfold probityref01_minus_S at h
  split at h
  · have h := h.out
    rw [probityref01_minus_e] at h
    exact calls_sound (Γ := probityref01_minus_E) progMixed ⟨.inl probityref01_trim_ok, trivial⟩ Tryz.func87 (code := probityref01_minus_C) (by kernel_rfl) (probityref01_minus_A Kv) Kv (holds_all (probityref01_minus_h Kv)) (Nat.le_of_ble_eq_true (by kernel_rfl)) h
  · exact h.elim⟩

/-! probityref01_over -/
def probityref01_over_b2 (a_0 : Sl) (b_1 : Sl) (q_6 : Sl) (r_7 : Sl) (i_8 : Int) (low_9 : Int) (high_10 : Int) (N2 : Sl → Sl → Sl → Sl → Int → Int → Int → World → Prop) (N0 : Sl → Sl → Sl → Sl → Int → World → Prop) (_K : Sl → Sl → World → Prop) (w : World) : Prop :=
  inR .i64 (high_10 - low_9) ∧ cnd (decide ((high_10 - low_9) > (1 : Int)))
    (inR .i64 (low_9 + high_10) ∧ (2 : Int) ≠ 0 ∧ inR .i64 (Int.tdiv (low_9 + high_10) (2 : Int)) ∧ probityref01_by_sh b_1 (Int.tdiv (low_9 + high_10) (2 : Int)) (fun (r13 : Sl) (w12 : World) => probityref01_compare_sh r13 r_7 (fun (r15 : Int) (w14 : World) => cnd (decide (r15 ≤ (0 : Int)))
    (N2 a_0 b_1 q_6 r_7 i_8 (Int.tdiv (low_9 + high_10) (2 : Int)) high_10 w14)
    (N2 a_0 b_1 q_6 r_7 i_8 low_9 (Int.tdiv (low_9 + high_10) (2 : Int)) w14)) w12) w)
    (nz q_6.p fun a16 => (0 ≤ i_8 ∧ i_8 < (q_6.l : Nat)) ∧ wrOk w (a16.add (i_8.toNat * 1)) ∧ 
  (let w17 : World := w.setCell (a16.add (i_8.toNat * 1)) (Value.int .i64 low_9)
  probityref01_by_sh b_1 low_9 (fun (r19 : Sl) (w18 : World) => probityref01_minus_sh r_7 r19 (fun (r21 : Sl) (w20 : World) => inR .i64 (i_8 - (1 : Int)) ∧ N0 a_0 b_1 q_6 r21 (i_8 - (1 : Int)) w20) w18) w17))
def probityref01_over_l2d (a_0 : Sl) (b_1 : Sl) (q_6 : Sl) (r_7 : Sl) (i_8 : Int) (low_9 : Int) (high_10 : Int) (N0 : Sl → Sl → Sl → Sl → Int → World → Prop) (K : Sl → Sl → World → Prop) (w : World) : Prop :=
  ∃ (I : Int → Int → World → Prop) (μ : Int → Int → World → Nat), I low_9 high_10 w ∧ ∀ (low_91 : Int) (high_101 : Int) (w1 : World), I low_91 high_101 w1 →
    probityref01_over_b2 a_0 b_1 q_6 r_7 i_8 low_91 high_101 (fun (a_0' : Sl) (b_1' : Sl) (q_6' : Sl) (r_7' : Sl) (i_8' : Int) (low_9' : Int) (high_10' : Int) (w' : World) => ((a_0' = a_0 ∧ b_1' = b_1 ∧ q_6' = q_6 ∧ r_7' = r_7 ∧ i_8' = i_8 ∧ True) ∧ I low_9' high_10' w') ∧ μ low_9' high_10' w' < μ low_91 high_101 w1) N0 K w1
structure probityref01_over_l2 (a_0 : Sl) (b_1 : Sl) (q_6 : Sl) (r_7 : Sl) (i_8 : Int) (low_9 : Int) (high_10 : Int) (N0 : Sl → Sl → Sl → Sl → Int → World → Prop) (K : Sl → Sl → World → Prop) (w : World) : Prop where
  out : probityref01_over_l2d a_0 b_1 q_6 r_7 i_8 low_9 high_10 N0 K w

def probityref01_over_k1d (a_0 : Sl) (b_1 : Sl) (q_6 : Sl) (r_7 : Sl) (i_8 : Int) (low_9 : Int) (high_10 : Int) (N0 : Sl → Sl → Sl → Sl → Int → World → Prop) (K : Sl → Sl → World → Prop) (w : World) : Prop :=
  probityref01_over_l2 a_0 b_1 q_6 r_7 i_8 low_9 high_10 N0 K w
structure probityref01_over_k1 (a_0 : Sl) (b_1 : Sl) (q_6 : Sl) (r_7 : Sl) (i_8 : Int) (low_9 : Int) (high_10 : Int) (N0 : Sl → Sl → Sl → Sl → Int → World → Prop) (K : Sl → Sl → World → Prop) (w : World) : Prop where
  out : probityref01_over_k1d a_0 b_1 q_6 r_7 i_8 low_9 high_10 N0 K w

def probityref01_over_b0 (a_0 : Sl) (b_1 : Sl) (q_6 : Sl) (r_7 : Sl) (i_8 : Int) (N0 : Sl → Sl → Sl → Sl → Int → World → Prop)  (K : Sl → Sl → World → Prop) (w : World) : Prop :=
  cnd (decide (i_8 ≥ (0 : Int)))
    (nz a_0.p fun a3 => (0 ≤ i_8 ∧ i_8 < (a_0.l : Nat)) ∧ ∃ x4 : Int, w.cell? (a3.add (i_8.toNat * 1)) = some (Value.int .i64 x4) ∧ let w5 : World := w.alloc (Obj.cells #[(Value.int .i64 x4)] 3)
  apS 1 8 [(Value.int .i64 (0 : Int))] 3 (Sl.mk (some (Addr.mk w.heap.size 0 none)) 1 1) r_7 w5 fun (s6 : Sl) (w7 : World) => probityref01_trim_sh s6 (fun (r9 : Sl) (w8 : World) => probityref01_compare_sh r9 b_1 (fun (r11 : Int) (w10 : World) => cnd (decide (r11 < (0 : Int)))
    (probityref01_over_k1 a_0 b_1 q_6 r9 i_8 (0 : Int) (1 : Int) N0 K w10)
    (probityref01_over_k1 a_0 b_1 q_6 r9 i_8 (0 : Int) (65536 : Int) N0 K w10)) w8) w7)
    (probityref01_trim_sh q_6 (fun (r23 : Sl) (w22 : World) => K r23 r_7 w22) w)
def probityref01_over_l0d (a_0 : Sl) (b_1 : Sl) (q_6 : Sl) (r_7 : Sl) (i_8 : Int)  (K : Sl → Sl → World → Prop) (w : World) : Prop :=
  ∃ (I : Sl → Int → World → Prop) (μ : Sl → Int → World → Nat), I r_7 i_8 w ∧ ∀ (r_71 : Sl) (i_81 : Int) (w1 : World), I r_71 i_81 w1 →
    probityref01_over_b0 a_0 b_1 q_6 r_71 i_81 (fun (a_0' : Sl) (b_1' : Sl) (q_6' : Sl) (r_7' : Sl) (i_8' : Int) (w' : World) => ((a_0' = a_0 ∧ b_1' = b_1 ∧ q_6' = q_6 ∧ True) ∧ I r_7' i_8' w') ∧ μ r_7' i_8' w' < μ r_71 i_81 w1)  K w1
structure probityref01_over_l0 (a_0 : Sl) (b_1 : Sl) (q_6 : Sl) (r_7 : Sl) (i_8 : Int)  (K : Sl → Sl → World → Prop) (w : World) : Prop where
  out : probityref01_over_l0d a_0 b_1 q_6 r_7 i_8 K w

def probityref01_over_sd (a_0 : Sl) (b_1 : Sl) (K : Sl → Sl → World → Prop) (w : World) : Prop :=
  mkS 8 [(Value.int .i64 (0 : Int))] 3 (a_0.l : Int) (a_0.l : Int) w fun (s1 : Sl) (w2 : World) => inR .i64 ((a_0.l : Int) - (1 : Int)) ∧ probityref01_over_l0 a_0 b_1 s1 (Sl.mk none 0 0) ((a_0.l : Int) - (1 : Int)) K w2

structure probityref01_over_sh (a_0 : Sl) (b_1 : Sl) (K : Sl → Sl → World → Prop) (w : World) : Prop where
  out : probityref01_over_sd a_0 b_1 K w

def probityref01_over_P0 (Kv : VW) (ρ : Rho) (vs : List Value) (w : World) : Prop :=
  match ρ, vs with
  | _, [.slice a_0p a_0l a_0c, .slice b_1p b_1l b_1c, .slice q_6p q_6l q_6c, .slice r_7p r_7l r_7c, .int .i64 i_8] => probityref01_over_l0 ⟨a_0p, a_0l, a_0c⟩ ⟨b_1p, b_1l, b_1c⟩ ⟨q_6p, q_6l, q_6c⟩ ⟨r_7p, r_7l, r_7c⟩ i_8  (fun (r0 : Sl) (r1 : Sl) (w' : World) => Kv (Value.tuple #[(Value.slice r0.p r0.l r0.c), (Value.slice r1.p r1.l r1.c)]) w') w
  | _, _ => False

def probityref01_over_P1 (Kv : VW) (ρ : Rho) (vs : List Value) (w : World) : Prop :=
  match ρ, vs with
  | N0 :: _, [.slice a_0p a_0l a_0c, .slice b_1p b_1l b_1c, .slice q_6p q_6l q_6c, .slice r_7p r_7l r_7c, .int .i64 i_8, .int .i64 low_9, .int .i64 high_10] => probityref01_over_k1 ⟨a_0p, a_0l, a_0c⟩ ⟨b_1p, b_1l, b_1c⟩ ⟨q_6p, q_6l, q_6c⟩ ⟨r_7p, r_7l, r_7c⟩ i_8 low_9 high_10 (fun (a_0' : Sl) (b_1' : Sl) (q_6' : Sl) (r_7' : Sl) (i_8' : Int) (w' : World) => N0 [(Value.slice a_0'.p a_0'.l a_0'.c), (Value.slice b_1'.p b_1'.l b_1'.c), (Value.slice q_6'.p q_6'.l q_6'.c), (Value.slice r_7'.p r_7'.l r_7'.c), (Value.int .i64 i_8')] w') (fun (r0 : Sl) (r1 : Sl) (w' : World) => Kv (Value.tuple #[(Value.slice r0.p r0.l r0.c), (Value.slice r1.p r1.l r1.c)]) w') w
  | _, _ => False

def probityref01_over_P2 (Kv : VW) (ρ : Rho) (vs : List Value) (w : World) : Prop :=
  match ρ, vs with
  | N0 :: _, [.slice a_0p a_0l a_0c, .slice b_1p b_1l b_1c, .slice q_6p q_6l q_6c, .slice r_7p r_7l r_7c, .int .i64 i_8, .int .i64 low_9, .int .i64 high_10] => probityref01_over_l2 ⟨a_0p, a_0l, a_0c⟩ ⟨b_1p, b_1l, b_1c⟩ ⟨q_6p, q_6l, q_6c⟩ ⟨r_7p, r_7l, r_7c⟩ i_8 low_9 high_10 (fun (a_0' : Sl) (b_1' : Sl) (q_6' : Sl) (r_7' : Sl) (i_8' : Int) (w' : World) => N0 [(Value.slice a_0'.p a_0'.l a_0'.c), (Value.slice b_1'.p b_1'.l b_1'.c), (Value.slice q_6'.p q_6'.l q_6'.c), (Value.slice r_7'.p r_7'.l r_7'.c), (Value.int .i64 i_8')] w') (fun (r0 : Sl) (r1 : Sl) (w' : World) => Kv (Value.tuple #[(Value.slice r0.p r0.l r0.c), (Value.slice r1.p r1.l r1.c)]) w') w
  | _, _ => False

noncomputable def probityref01_over_S : Pw.Spec := fun vs w Kv =>
  match vs with
  | [.slice a_0p a_0l a_0c, .slice b_1p b_1l b_1c] => probityref01_over_sh ⟨a_0p, a_0l, a_0c⟩ ⟨b_1p, b_1l, b_1c⟩ (fun (r0 : Sl) (r1 : Sl) (w' : World) => Kv (Value.tuple #[(Value.slice r0.p r0.l r0.c), (Value.slice r1.p r1.l r1.c)]) w') w
  | _ => False

noncomputable def probityref01_over_E : Pw.Env := [(66, probityref01_trim_S), (86, probityref01_compare_S), (87, probityref01_minus_S), (93, probityref01_by_S)]

noncomputable def probityref01_over_C : Code := (Tryz.f76.body).getD .skip

noncomputable def probityref01_over_A (Kv : VW) : Pw.A :=
  (A.seq (A.reg (RA.run (RA.run RA.done)))
   (A.seq (A.reg (RA.run (RA.run (RA.run (RA.run RA.done)))))
   (A.seq (A.reg (RA.run RA.done))
   (A.seq (A.seq (A.reg (RA.run (RA.run (RA.run (RA.run RA.done)))))
   (A.blk (A.loop [0, 1, 6, 7, 8] (probityref01_over_P0 Kv) (A.seq (A.seq (A.reg (RA.run (RA.run RA.done)))
   (A.cond A.leaf
   A.leaf))
   (A.seq (A.blk (A.seq (A.reg (RA.run (RA.run (RA.run (RA.run (RA.run (RA.run (RA.run (RA.run (RA.run RA.done))))))))))
   (A.seq (A.reg (RA.run RA.done))
   (A.seq (A.reg (RA.run RA.done))
   (A.seq (A.seq (A.reg (RA.run (RA.run (RA.run (RA.run RA.done)))))
   (A.cond (A.reg (RA.run RA.done))
   A.leaf))
   (A.cut [0, 1, 6, 7, 8, 9, 10] (probityref01_over_P1 Kv) (A.seq (A.blk (A.loop [0, 1, 6, 7, 8, 9, 10] (probityref01_over_P2 Kv) (A.seq (A.seq (A.reg (RA.run (RA.run (RA.run (RA.run RA.done)))))
   (A.cond A.leaf
   A.leaf))
   (A.blk (A.seq (A.reg (RA.run (RA.run (RA.run (RA.run (RA.run RA.done))))))
   (A.seq (A.reg (RA.run (RA.run (RA.run (RA.run (RA.run (RA.run RA.done)))))))
   (A.cond (A.reg (RA.run (RA.run RA.done)))
   (A.reg (RA.run (RA.run RA.done))))))))))
   (A.seq (A.reg (RA.run (RA.run (RA.run (RA.run (RA.run RA.done))))))
   (A.reg (RA.run (RA.run (RA.run (RA.run (RA.run (RA.run RA.done)))))))))))))))
   (A.reg (RA.run (RA.run (RA.run RA.done)))))))))
   (A.seq (A.reg (RA.run (RA.run (RA.run (RA.run (RA.run RA.done))))))
   A.leaf)))))

noncomputable def probityref01_over_O (Kv : VW) : List Ob := (obs Tryz.prog probityref01_over_E 62 (probityref01_over_A Kv) probityref01_over_C (fun _ => retQ Tryz.prog Tryz.f76.results Kv))

theorem probityref01_over_e (Kv : VW) (a_0p : Option Addr) (a_0l a_0c : Nat) (b_1p : Option Addr) (b_1l b_1c : Nat) (w : World) : probityref01_over_sd ⟨a_0p, a_0l, a_0c⟩ ⟨b_1p, b_1l, b_1c⟩ (fun (r0 : Sl) (r1 : Sl) (w' : World) => Kv (Value.tuple #[(Value.slice r0.p r0.l r0.c), (Value.slice r1.p r1.l r1.c)]) w') w = W Tryz.prog probityref01_over_E 62 (probityref01_over_A Kv) probityref01_over_C [] (retQ Tryz.prog Tryz.f76.results Kv) [] (startS [(Value.slice a_0p a_0l a_0c), (Value.slice b_1p b_1l b_1c)]) w := by kernel_rfl

theorem probityref01_over_e0 (Kv : VW) (N0 : List Value → World → Prop) (ρ : Rho) (a_0p : Option Addr) (a_0l a_0c : Nat) (b_1p : Option Addr) (b_1l b_1c : Nat) (q_6p : Option Addr) (q_6l q_6c : Nat) (r_7p : Option Addr) (r_7l r_7c : Nat) (i_8 : Int) (w : World) : probityref01_over_b0 ⟨a_0p, a_0l, a_0c⟩ ⟨b_1p, b_1l, b_1c⟩ ⟨q_6p, q_6l, q_6c⟩ ⟨r_7p, r_7l, r_7c⟩ i_8 (fun (a_0' : Sl) (b_1' : Sl) (q_6' : Sl) (r_7' : Sl) (i_8' : Int) (w' : World) => N0 [(Value.slice a_0'.p a_0'.l a_0'.c), (Value.slice b_1'.p b_1'.l b_1'.c), (Value.slice q_6'.p q_6'.l q_6'.c), (Value.slice r_7'.p r_7'.l r_7'.c), (Value.int .i64 i_8')] w')  (fun (r0 : Sl) (r1 : Sl) (w' : World) => Kv (Value.tuple #[(Value.slice r0.p r0.l r0.c), (Value.slice r1.p r1.l r1.c)]) w') w = goalAt Tryz.prog probityref01_over_E 62 (probityref01_over_O Kv) 0 (N0 :: ρ) [(Value.slice a_0p a_0l a_0c), (Value.slice b_1p b_1l b_1c), (Value.slice q_6p q_6l q_6c), (Value.slice r_7p r_7l r_7c), (Value.int .i64 i_8)] w := by kernel_rfl

theorem probityref01_over_q0 (Kv : VW) (ρ : Rho) (vs : List Value) (w : World) : labAt (probityref01_over_O Kv) 0 ρ vs w = probityref01_over_P0 Kv ρ vs w := by kernel_rfl

def probityref01_over_I0 (a_00 : Sl) (b_10 : Sl) (q_60 : Sl) (I : Sl → Int → World → Prop) (vs : List Value) (w : World) : Prop :=
  match vs with
  | [.slice a_0p a_0l a_0c, .slice b_1p b_1l b_1c, .slice q_6p q_6l q_6c, .slice r_7p r_7l r_7c, .int .i64 i_8] => (⟨a_0p, a_0l, a_0c⟩ = a_00 ∧ ⟨b_1p, b_1l, b_1c⟩ = b_10 ∧ ⟨q_6p, q_6l, q_6c⟩ = q_60 ∧ True) ∧ I ⟨r_7p, r_7l, r_7c⟩ i_8 w
  | _ => False

def probityref01_over_M0 (μ : Sl → Int → World → Nat) (vs : List Value) (w : World) : Nat :=
  match vs with
  | [.slice _a_0p _a_0l _a_0c, .slice _b_1p _b_1l _b_1c, .slice _q_6p _q_6l _q_6c, .slice r_7p r_7l r_7c, .int .i64 i_8] => μ ⟨r_7p, r_7l, r_7c⟩ i_8 w
  | _ => 0

theorem probityref01_over_h0 (Kv : VW) : holdsAt Tryz.prog probityref01_over_E 62 (probityref01_over_O Kv) 0 := holdsAt_loop (by kernel_rfl) (fun ρ vs w h => by
  rw [probityref01_over_q0] at h
  unfold probityref01_over_P0 at h
  split at h
  · rename_i ρt a_0p a_0l a_0c b_1p b_1l b_1c q_6p q_6l q_6c r_7p r_7l r_7c i_8
    obtain ⟨I, μ, h0, hr⟩ := h.out
    refine ⟨probityref01_over_I0 ⟨a_0p, a_0l, a_0c⟩ ⟨b_1p, b_1l, b_1c⟩ ⟨q_6p, q_6l, q_6c⟩ I, probityref01_over_M0 μ, ⟨⟨rfl, rfl, rfl, trivial⟩, h0⟩, fun vs w hI => ?_⟩
    unfold probityref01_over_I0 at hI
    split at hI
    · obtain ⟨⟨h0, h1, h2, _⟩, hI⟩ := hI
      cases h0; cases h1; cases h2
      rw [← probityref01_over_e0]
      exact hr _ _ _ hI
    · exact hI.elim
  · exact h.elim)

theorem probityref01_over_e1 (Kv : VW) (N0 : List Value → World → Prop) (ρ : Rho) (a_0p : Option Addr) (a_0l a_0c : Nat) (b_1p : Option Addr) (b_1l b_1c : Nat) (q_6p : Option Addr) (q_6l q_6c : Nat) (r_7p : Option Addr) (r_7l r_7c : Nat) (i_8 : Int) (low_9 : Int) (high_10 : Int) (w : World) : probityref01_over_k1d ⟨a_0p, a_0l, a_0c⟩ ⟨b_1p, b_1l, b_1c⟩ ⟨q_6p, q_6l, q_6c⟩ ⟨r_7p, r_7l, r_7c⟩ i_8 low_9 high_10 (fun (a_0' : Sl) (b_1' : Sl) (q_6' : Sl) (r_7' : Sl) (i_8' : Int) (w' : World) => N0 [(Value.slice a_0'.p a_0'.l a_0'.c), (Value.slice b_1'.p b_1'.l b_1'.c), (Value.slice q_6'.p q_6'.l q_6'.c), (Value.slice r_7'.p r_7'.l r_7'.c), (Value.int .i64 i_8')] w') (fun (r0 : Sl) (r1 : Sl) (w' : World) => Kv (Value.tuple #[(Value.slice r0.p r0.l r0.c), (Value.slice r1.p r1.l r1.c)]) w') w = goalAt Tryz.prog probityref01_over_E 62 (probityref01_over_O Kv) 1 (N0 :: ρ) [(Value.slice a_0p a_0l a_0c), (Value.slice b_1p b_1l b_1c), (Value.slice q_6p q_6l q_6c), (Value.slice r_7p r_7l r_7c), (Value.int .i64 i_8), (Value.int .i64 low_9), (Value.int .i64 high_10)] w := by kernel_rfl

theorem probityref01_over_q1 (Kv : VW) (ρ : Rho) (vs : List Value) (w : World) : labAt (probityref01_over_O Kv) 1 ρ vs w = probityref01_over_P1 Kv ρ vs w := by kernel_rfl

theorem probityref01_over_h1 (Kv : VW) : holdsAt Tryz.prog probityref01_over_E 62 (probityref01_over_O Kv) 1 := holdsAt_cut (.inl (by kernel_rfl)) (fun ρ vs w h => by
  rw [probityref01_over_q1] at h
  unfold probityref01_over_P1 at h
  split at h
  · rw [← probityref01_over_e1]; exact h.out
  · exact h.elim)

theorem probityref01_over_e2 (Kv : VW) (N2 N0 : List Value → World → Prop) (ρ : Rho) (a_0p : Option Addr) (a_0l a_0c : Nat) (b_1p : Option Addr) (b_1l b_1c : Nat) (q_6p : Option Addr) (q_6l q_6c : Nat) (r_7p : Option Addr) (r_7l r_7c : Nat) (i_8 : Int) (low_9 : Int) (high_10 : Int) (w : World) : probityref01_over_b2 ⟨a_0p, a_0l, a_0c⟩ ⟨b_1p, b_1l, b_1c⟩ ⟨q_6p, q_6l, q_6c⟩ ⟨r_7p, r_7l, r_7c⟩ i_8 low_9 high_10 (fun (a_0' : Sl) (b_1' : Sl) (q_6' : Sl) (r_7' : Sl) (i_8' : Int) (low_9' : Int) (high_10' : Int) (w' : World) => N2 [(Value.slice a_0'.p a_0'.l a_0'.c), (Value.slice b_1'.p b_1'.l b_1'.c), (Value.slice q_6'.p q_6'.l q_6'.c), (Value.slice r_7'.p r_7'.l r_7'.c), (Value.int .i64 i_8'), (Value.int .i64 low_9'), (Value.int .i64 high_10')] w') (fun (a_0' : Sl) (b_1' : Sl) (q_6' : Sl) (r_7' : Sl) (i_8' : Int) (w' : World) => N0 [(Value.slice a_0'.p a_0'.l a_0'.c), (Value.slice b_1'.p b_1'.l b_1'.c), (Value.slice q_6'.p q_6'.l q_6'.c), (Value.slice r_7'.p r_7'.l r_7'.c), (Value.int .i64 i_8')] w') (fun (r0 : Sl) (r1 : Sl) (w' : World) => Kv (Value.tuple #[(Value.slice r0.p r0.l r0.c), (Value.slice r1.p r1.l r1.c)]) w') w = goalAt Tryz.prog probityref01_over_E 62 (probityref01_over_O Kv) 2 (N2 :: N0 :: ρ) [(Value.slice a_0p a_0l a_0c), (Value.slice b_1p b_1l b_1c), (Value.slice q_6p q_6l q_6c), (Value.slice r_7p r_7l r_7c), (Value.int .i64 i_8), (Value.int .i64 low_9), (Value.int .i64 high_10)] w := by kernel_rfl

theorem probityref01_over_q2 (Kv : VW) (ρ : Rho) (vs : List Value) (w : World) : labAt (probityref01_over_O Kv) 2 ρ vs w = probityref01_over_P2 Kv ρ vs w := by kernel_rfl

def probityref01_over_I2 (a_00 : Sl) (b_10 : Sl) (q_60 : Sl) (r_70 : Sl) (i_80 : Int) (I : Int → Int → World → Prop) (vs : List Value) (w : World) : Prop :=
  match vs with
  | [.slice a_0p a_0l a_0c, .slice b_1p b_1l b_1c, .slice q_6p q_6l q_6c, .slice r_7p r_7l r_7c, .int .i64 i_8, .int .i64 low_9, .int .i64 high_10] => (⟨a_0p, a_0l, a_0c⟩ = a_00 ∧ ⟨b_1p, b_1l, b_1c⟩ = b_10 ∧ ⟨q_6p, q_6l, q_6c⟩ = q_60 ∧ ⟨r_7p, r_7l, r_7c⟩ = r_70 ∧ i_8 = i_80 ∧ True) ∧ I low_9 high_10 w
  | _ => False

def probityref01_over_M2 (μ : Int → Int → World → Nat) (vs : List Value) (w : World) : Nat :=
  match vs with
  | [.slice _a_0p _a_0l _a_0c, .slice _b_1p _b_1l _b_1c, .slice _q_6p _q_6l _q_6c, .slice _r_7p _r_7l _r_7c, .int .i64 _i_8, .int .i64 low_9, .int .i64 high_10] => μ low_9 high_10 w
  | _ => 0

theorem probityref01_over_h2 (Kv : VW) : holdsAt Tryz.prog probityref01_over_E 62 (probityref01_over_O Kv) 2 := holdsAt_loop (by kernel_rfl) (fun ρ vs w h => by
  rw [probityref01_over_q2] at h
  unfold probityref01_over_P2 at h
  split at h
  · rename_i N0 ρt a_0p a_0l a_0c b_1p b_1l b_1c q_6p q_6l q_6c r_7p r_7l r_7c i_8 low_9 high_10
    obtain ⟨I, μ, h0, hr⟩ := h.out
    refine ⟨probityref01_over_I2 ⟨a_0p, a_0l, a_0c⟩ ⟨b_1p, b_1l, b_1c⟩ ⟨q_6p, q_6l, q_6c⟩ ⟨r_7p, r_7l, r_7c⟩ i_8 I, probityref01_over_M2 μ, ⟨⟨rfl, rfl, rfl, rfl, rfl, trivial⟩, h0⟩, fun vs w hI => ?_⟩
    unfold probityref01_over_I2 at hI
    split at hI
    · obtain ⟨⟨h0, h1, h2, h3, h4, _⟩, hI⟩ := hI
      cases h0; cases h1; cases h2; cases h3; cases h4
      rw [← probityref01_over_e2]
      exact hr _ _ _ hI
    · exact hI.elim
  · exact h.elim)

theorem probityref01_over_n (Kv : VW) : obAt (probityref01_over_O Kv) 3 = none := by kernel_rfl

theorem probityref01_over_h (Kv : VW) : ∀ k, holdsAt Tryz.prog probityref01_over_E 62 (probityref01_over_O Kv) k := fun k => match k with
  | 0 => probityref01_over_h0 Kv
  | 1 => probityref01_over_h1 Kv
  | 2 => probityref01_over_h2 Kv
  | _k + 3 => holdsAt_ge (probityref01_over_n Kv) (Nat.le_add_left _ _)

theorem probityref01_over_ok : Sound Tryz.prog 76 probityref01_over_S := ⟨Tryz.call76, fun vs w Kv h => by
  unfold probityref01_over_S at h
  split at h
  · have h := h.out
    rw [probityref01_over_e] at h
    exact calls_sound (Γ := probityref01_over_E) progMixed ⟨.inl probityref01_trim_ok, .inl probityref01_compare_ok, .inl probityref01_minus_ok, .inl probityref01_by_ok, trivial⟩ Tryz.func76 (code := probityref01_over_C) (by kernel_rfl) (probityref01_over_A Kv) Kv (holds_all (probityref01_over_h Kv)) (Nat.le_of_ble_eq_true (by kernel_rfl)) h
  · exact h.elim⟩

/-! probityref01_common -/
def probityref01_common_b0 (a_0 : Sl) (b_1 : Sl) (N0 : Sl → Sl → World → Prop)  (K : Sl → World → Prop) (w : World) : Prop :=
  probityref01_trim_sh b_1 (fun (r2 : Sl) (w1 : World) => cnd (decide ((r2.l : Int) > (0 : Int)))
    (probityref01_trim_sh a_0 (fun (r4 : Sl) (w3 : World) => probityref01_trim_sh b_1 (fun (r6 : Sl) (w5 : World) => probityref01_over_sh r4 r6 (fun (_r8 : Sl) (r9 : Sl) (w7 : World) => N0 b_1 r9 w7) w5) w3) w1)
    (probityref01_trim_sh a_0 (fun (r11 : Sl) (w10 : World) => K r11 w10) w1)) w
def probityref01_common_l0d (a_0 : Sl) (b_1 : Sl)  (K : Sl → World → Prop) (w : World) : Prop :=
  ∃ (I : Sl → Sl → World → Prop) (μ : Sl → Sl → World → Nat), I a_0 b_1 w ∧ ∀ (a_01 : Sl) (b_11 : Sl) (w1 : World), I a_01 b_11 w1 →
    probityref01_common_b0 a_01 b_11 (fun (a_0' : Sl) (b_1' : Sl) (w' : World) => ((True) ∧ I a_0' b_1' w') ∧ μ a_0' b_1' w' < μ a_01 b_11 w1)  K w1
structure probityref01_common_l0 (a_0 : Sl) (b_1 : Sl)  (K : Sl → World → Prop) (w : World) : Prop where
  out : probityref01_common_l0d a_0 b_1 K w

def probityref01_common_sd (a_0 : Sl) (b_1 : Sl) (K : Sl → World → Prop) (w : World) : Prop :=
  probityref01_common_l0 a_0 b_1 K w

structure probityref01_common_sh (a_0 : Sl) (b_1 : Sl) (K : Sl → World → Prop) (w : World) : Prop where
  out : probityref01_common_sd a_0 b_1 K w

def probityref01_common_P0 (Kv : VW) (ρ : Rho) (vs : List Value) (w : World) : Prop :=
  match ρ, vs with
  | _, [.slice a_0p a_0l a_0c, .slice b_1p b_1l b_1c] => probityref01_common_l0 ⟨a_0p, a_0l, a_0c⟩ ⟨b_1p, b_1l, b_1c⟩  (fun (r0 : Sl) (w' : World) => Kv (Value.slice r0.p r0.l r0.c) w') w
  | _, _ => False

noncomputable def probityref01_common_S : Pw.Spec := fun vs w Kv =>
  match vs with
  | [.slice a_0p a_0l a_0c, .slice b_1p b_1l b_1c] => probityref01_common_sh ⟨a_0p, a_0l, a_0c⟩ ⟨b_1p, b_1l, b_1c⟩ (fun (r0 : Sl) (w' : World) => Kv (Value.slice r0.p r0.l r0.c) w') w
  | _ => False

noncomputable def probityref01_common_E : Pw.Env := [(66, probityref01_trim_S), (76, probityref01_over_S)]

noncomputable def probityref01_common_C : Code := (Tryz.f75.body).getD .skip

noncomputable def probityref01_common_A (Kv : VW) : Pw.A :=
  (A.seq (A.reg (RA.run RA.done))
   (A.seq (A.blk (A.loop [0, 1] (probityref01_common_P0 Kv) (A.seq (A.seq (A.reg (RA.run (RA.run (RA.run (RA.run RA.done)))))
   (A.cond A.leaf
   A.leaf))
   (A.blk (A.seq (A.reg (RA.run (RA.run (RA.run (RA.run (RA.run (RA.run (RA.run (RA.run (RA.run (RA.run RA.done)))))))))))
   (A.seq (A.reg (RA.run (RA.run RA.done)))
   (A.reg (RA.run (RA.run RA.done)))))))))
   (A.seq (A.reg (RA.run (RA.run (RA.run RA.done))))
   A.leaf)))

noncomputable def probityref01_common_O (Kv : VW) : List Ob := (obs Tryz.prog probityref01_common_E 23 (probityref01_common_A Kv) probityref01_common_C (fun _ => retQ Tryz.prog Tryz.f75.results Kv))

theorem probityref01_common_e (Kv : VW) (a_0p : Option Addr) (a_0l a_0c : Nat) (b_1p : Option Addr) (b_1l b_1c : Nat) (w : World) : probityref01_common_sd ⟨a_0p, a_0l, a_0c⟩ ⟨b_1p, b_1l, b_1c⟩ (fun (r0 : Sl) (w' : World) => Kv (Value.slice r0.p r0.l r0.c) w') w = W Tryz.prog probityref01_common_E 23 (probityref01_common_A Kv) probityref01_common_C [] (retQ Tryz.prog Tryz.f75.results Kv) [] (startS [(Value.slice a_0p a_0l a_0c), (Value.slice b_1p b_1l b_1c)]) w := by kernel_rfl

theorem probityref01_common_e0 (Kv : VW) (N0 : List Value → World → Prop) (ρ : Rho) (a_0p : Option Addr) (a_0l a_0c : Nat) (b_1p : Option Addr) (b_1l b_1c : Nat) (w : World) : probityref01_common_b0 ⟨a_0p, a_0l, a_0c⟩ ⟨b_1p, b_1l, b_1c⟩ (fun (a_0' : Sl) (b_1' : Sl) (w' : World) => N0 [(Value.slice a_0'.p a_0'.l a_0'.c), (Value.slice b_1'.p b_1'.l b_1'.c)] w')  (fun (r0 : Sl) (w' : World) => Kv (Value.slice r0.p r0.l r0.c) w') w = goalAt Tryz.prog probityref01_common_E 23 (probityref01_common_O Kv) 0 (N0 :: ρ) [(Value.slice a_0p a_0l a_0c), (Value.slice b_1p b_1l b_1c)] w := by kernel_rfl

theorem probityref01_common_q0 (Kv : VW) (ρ : Rho) (vs : List Value) (w : World) : labAt (probityref01_common_O Kv) 0 ρ vs w = probityref01_common_P0 Kv ρ vs w := by kernel_rfl

def probityref01_common_I0  (I : Sl → Sl → World → Prop) (vs : List Value) (w : World) : Prop :=
  match vs with
  | [.slice a_0p a_0l a_0c, .slice b_1p b_1l b_1c] => (True) ∧ I ⟨a_0p, a_0l, a_0c⟩ ⟨b_1p, b_1l, b_1c⟩ w
  | _ => False

def probityref01_common_M0 (μ : Sl → Sl → World → Nat) (vs : List Value) (w : World) : Nat :=
  match vs with
  | [.slice a_0p a_0l a_0c, .slice b_1p b_1l b_1c] => μ ⟨a_0p, a_0l, a_0c⟩ ⟨b_1p, b_1l, b_1c⟩ w
  | _ => 0

theorem probityref01_common_h0 (Kv : VW) : holdsAt Tryz.prog probityref01_common_E 23 (probityref01_common_O Kv) 0 := holdsAt_loop (by kernel_rfl) (fun ρ vs w h => by
  rw [probityref01_common_q0] at h
  unfold probityref01_common_P0 at h
  split at h
  · rename_i ρt a_0p a_0l a_0c b_1p b_1l b_1c
    obtain ⟨I, μ, h0, hr⟩ := h.out
    refine ⟨probityref01_common_I0  I, probityref01_common_M0 μ, ⟨trivial, h0⟩, fun vs w hI => ?_⟩
    unfold probityref01_common_I0 at hI
    split at hI
    · obtain ⟨_, hI⟩ := hI
      skip
      rw [← probityref01_common_e0]
      exact hr _ _ _ hI
    · exact hI.elim
  · exact h.elim)

theorem probityref01_common_n (Kv : VW) : obAt (probityref01_common_O Kv) 1 = none := by kernel_rfl

theorem probityref01_common_h (Kv : VW) : ∀ k, holdsAt Tryz.prog probityref01_common_E 23 (probityref01_common_O Kv) k := fun k => match k with
  | 0 => probityref01_common_h0 Kv
  | _k + 1 => holdsAt_ge (probityref01_common_n Kv) (Nat.le_add_left _ _)

theorem probityref01_common_ok : Sound Tryz.prog 75 probityref01_common_S := ⟨Tryz.call75, fun vs w Kv h => by
  unfold probityref01_common_S at h
  split at h
  · have h := h.out
    rw [probityref01_common_e] at h
    exact calls_sound (Γ := probityref01_common_E) progMixed ⟨.inl probityref01_trim_ok, .inl probityref01_over_ok, trivial⟩ Tryz.func75 (code := probityref01_common_C) (by kernel_rfl) (probityref01_common_A Kv) Kv (holds_all (probityref01_common_h Kv)) (Nat.le_of_ble_eq_true (by kernel_rfl)) h
  · exact h.elim⟩

/-! probityref01_of -/
def probityref01_of_b1 (n_0 : Int) (t_2 : Addr) (l_3 : Sl) (m_4 : Int) (N1 : Int → Addr → Sl → Int → World → Prop)  (K : Bool → Sl → World → Prop) (w : World) : Prop :=
  cnd (decide (m_4 > (0 : Int)))
    ((65536 : Int) ≠ 0 ∧ let w2 : World := w.alloc (Obj.cells #[(Value.int .i64 (IntKind.wrap .i64 (Int.tmod m_4 (65536 : Int))))] 3)
  apS 1 8 [(Value.int .i64 (0 : Int))] 3 l_3 (Sl.mk (some (Addr.mk w.heap.size 0 none)) 1 1) w2 fun (s3 : Sl) (w4 : World) => (65536 : Int) ≠ 0 ∧ inR .u64 (Int.tdiv m_4 (65536 : Int)) ∧ N1 n_0 t_2 s3 (Int.tdiv m_4 (65536 : Int)) w4)
    (wrOk w t_2 ∧ 
  (let w5 : World := w.setCell t_2 (Value.bool (decide (n_0 < (0 : Int))))
  wrOk w5 (t_2.add 1) ∧ 
  (let w6 : World := w5.setCell (t_2.add 1) (Value.slice l_3.p l_3.l l_3.c)
  ∃ x7 : Bool, w6.cell? t_2 = some (Value.bool x7) ∧ ∃ x8 : Sl, w6.cell? (t_2.add 1) = some (Value.slice x8.p x8.l x8.c) ∧ K x7 x8 w6)))
def probityref01_of_l1d (n_0 : Int) (t_2 : Addr) (l_3 : Sl) (m_4 : Int)  (K : Bool → Sl → World → Prop) (w : World) : Prop :=
  ∃ (I : Sl → Int → World → Prop) (μ : Sl → Int → World → Nat), I l_3 m_4 w ∧ ∀ (l_31 : Sl) (m_41 : Int) (w1 : World), I l_31 m_41 w1 →
    probityref01_of_b1 n_0 t_2 l_31 m_41 (fun (n_0' : Int) (t_2' : Addr) (l_3' : Sl) (m_4' : Int) (w' : World) => ((n_0' = n_0 ∧ t_2' = t_2 ∧ True) ∧ I l_3' m_4' w') ∧ μ l_3' m_4' w' < μ l_31 m_41 w1)  K w1
structure probityref01_of_l1 (n_0 : Int) (t_2 : Addr) (l_3 : Sl) (m_4 : Int)  (K : Bool → Sl → World → Prop) (w : World) : Prop where
  out : probityref01_of_l1d n_0 t_2 l_3 m_4 K w

def probityref01_of_k0d (n_0 : Int) (t_2 : Addr) (l_3 : Sl) (m_4 : Int)  (K : Bool → Sl → World → Prop) (w : World) : Prop :=
  probityref01_of_l1 n_0 t_2 l_3 m_4 K w
structure probityref01_of_k0 (n_0 : Int) (t_2 : Addr) (l_3 : Sl) (m_4 : Int)  (K : Bool → Sl → World → Prop) (w : World) : Prop where
  out : probityref01_of_k0d n_0 t_2 l_3 m_4 K w

def probityref01_of_sd (n_0 : Int) (K : Bool → Sl → World → Prop) (w : World) : Prop :=
  let w1 : World := w.alloc (Obj.cells #[(Value.bool false), (Value.slice none 0 0)] 74)
  cnd (decide (n_0 < (0 : Int)))
    (probityref01_of_k0 n_0 (Addr.mk w.heap.size 0 none) (Sl.mk none 0 0) (IntKind.wrap .u64 ((0 : Int) - (IntKind.wrap .u64 n_0))) K w1)
    (probityref01_of_k0 n_0 (Addr.mk w.heap.size 0 none) (Sl.mk none 0 0) (IntKind.wrap .u64 n_0) K w1)

structure probityref01_of_sh (n_0 : Int) (K : Bool → Sl → World → Prop) (w : World) : Prop where
  out : probityref01_of_sd n_0 K w

def probityref01_of_P0 (Kv : VW) (ρ : Rho) (vs : List Value) (w : World) : Prop :=
  match ρ, vs with
  | _, [.int .i64 n_0, .pointer (some t_2), .slice l_3p l_3l l_3c, .int .u64 m_4] => probityref01_of_k0 n_0 t_2 ⟨l_3p, l_3l, l_3c⟩ m_4  (fun (r0_0 : Bool) (r0_1 : Sl) (w' : World) => Kv (Value.agg #[(Value.bool r0_0), (Value.slice r0_1.p r0_1.l r0_1.c)]) w') w
  | _, _ => False

def probityref01_of_P1 (Kv : VW) (ρ : Rho) (vs : List Value) (w : World) : Prop :=
  match ρ, vs with
  | _, [.int .i64 n_0, .pointer (some t_2), .slice l_3p l_3l l_3c, .int .u64 m_4] => probityref01_of_l1 n_0 t_2 ⟨l_3p, l_3l, l_3c⟩ m_4  (fun (r0_0 : Bool) (r0_1 : Sl) (w' : World) => Kv (Value.agg #[(Value.bool r0_0), (Value.slice r0_1.p r0_1.l r0_1.c)]) w') w
  | _, _ => False

noncomputable def probityref01_of_S : Pw.Spec := fun vs w Kv =>
  match vs with
  | [.int .i64 n_0] => probityref01_of_sh n_0 (fun (r0_0 : Bool) (r0_1 : Sl) (w' : World) => Kv (Value.agg #[(Value.bool r0_0), (Value.slice r0_1.p r0_1.l r0_1.c)]) w') w
  | _ => False

noncomputable def probityref01_of_E : Pw.Env := []

noncomputable def probityref01_of_C : Code := (Tryz.f54.body).getD .skip

noncomputable def probityref01_of_A (Kv : VW) : Pw.A :=
  (A.seq (A.reg (RA.run RA.done))
   (A.seq (A.reg (RA.run RA.done))
   (A.seq (A.reg (RA.run (RA.raw (RA.run RA.done))))
   (A.seq (A.seq (A.reg (RA.run (RA.run RA.done)))
   (A.cond (A.reg (RA.run (RA.raw (RA.run RA.done))))
   A.leaf))
   (A.cut [0, 2, 3, 4] (probityref01_of_P0 Kv) (A.seq (A.blk (A.loop [0, 2, 3, 4] (probityref01_of_P1 Kv) (A.seq (A.seq (A.reg (RA.run (RA.run RA.done)))
   (A.cond A.leaf
   A.leaf))
   (A.blk (A.seq (A.reg (RA.run (RA.run (RA.run (RA.raw (RA.run (RA.run (RA.run RA.done))))))))
   (A.reg (RA.run (RA.run (RA.run RA.done)))))))))
   (A.seq (A.reg (RA.run (RA.run (RA.run (RA.run (RA.run RA.done))))))
   A.leaf)))))))

noncomputable def probityref01_of_O (Kv : VW) : List Ob := (obs Tryz.prog probityref01_of_E 25 (probityref01_of_A Kv) probityref01_of_C (fun _ => retQ Tryz.prog Tryz.f54.results Kv))

theorem probityref01_of_e (Kv : VW) (n_0 : Int) (w : World) : probityref01_of_sd n_0 (fun (r0_0 : Bool) (r0_1 : Sl) (w' : World) => Kv (Value.agg #[(Value.bool r0_0), (Value.slice r0_1.p r0_1.l r0_1.c)]) w') w = W Tryz.prog probityref01_of_E 25 (probityref01_of_A Kv) probityref01_of_C [] (retQ Tryz.prog Tryz.f54.results Kv) [] (startS [(Value.int .i64 n_0)]) w := by kernel_rfl

theorem probityref01_of_e0 (Kv : VW) (ρ : Rho) (n_0 : Int) (t_2 : Addr) (l_3p : Option Addr) (l_3l l_3c : Nat) (m_4 : Int) (w : World) : probityref01_of_k0d n_0 t_2 ⟨l_3p, l_3l, l_3c⟩ m_4  (fun (r0_0 : Bool) (r0_1 : Sl) (w' : World) => Kv (Value.agg #[(Value.bool r0_0), (Value.slice r0_1.p r0_1.l r0_1.c)]) w') w = goalAt Tryz.prog probityref01_of_E 25 (probityref01_of_O Kv) 0 (ρ) [(Value.int .i64 n_0), (Value.pointer (some t_2)), (Value.slice l_3p l_3l l_3c), (Value.int .u64 m_4)] w := by kernel_rfl

theorem probityref01_of_q0 (Kv : VW) (ρ : Rho) (vs : List Value) (w : World) : labAt (probityref01_of_O Kv) 0 ρ vs w = probityref01_of_P0 Kv ρ vs w := by kernel_rfl

theorem probityref01_of_h0 (Kv : VW) : holdsAt Tryz.prog probityref01_of_E 25 (probityref01_of_O Kv) 0 := holdsAt_cut (.inl (by kernel_rfl)) (fun ρ vs w h => by
  rw [probityref01_of_q0] at h
  unfold probityref01_of_P0 at h
  split at h
  · rw [← probityref01_of_e0]; exact h.out
  · exact h.elim)

theorem probityref01_of_e1 (Kv : VW) (N1 : List Value → World → Prop) (ρ : Rho) (n_0 : Int) (t_2 : Addr) (l_3p : Option Addr) (l_3l l_3c : Nat) (m_4 : Int) (w : World) : probityref01_of_b1 n_0 t_2 ⟨l_3p, l_3l, l_3c⟩ m_4 (fun (n_0' : Int) (t_2' : Addr) (l_3' : Sl) (m_4' : Int) (w' : World) => N1 [(Value.int .i64 n_0'), (Value.pointer (some t_2')), (Value.slice l_3'.p l_3'.l l_3'.c), (Value.int .u64 m_4')] w')  (fun (r0_0 : Bool) (r0_1 : Sl) (w' : World) => Kv (Value.agg #[(Value.bool r0_0), (Value.slice r0_1.p r0_1.l r0_1.c)]) w') w = goalAt Tryz.prog probityref01_of_E 25 (probityref01_of_O Kv) 1 (N1 :: ρ) [(Value.int .i64 n_0), (Value.pointer (some t_2)), (Value.slice l_3p l_3l l_3c), (Value.int .u64 m_4)] w := by kernel_rfl

theorem probityref01_of_q1 (Kv : VW) (ρ : Rho) (vs : List Value) (w : World) : labAt (probityref01_of_O Kv) 1 ρ vs w = probityref01_of_P1 Kv ρ vs w := by kernel_rfl

def probityref01_of_I1 (n_00 : Int) (t_20 : Addr) (I : Sl → Int → World → Prop) (vs : List Value) (w : World) : Prop :=
  match vs with
  | [.int .i64 n_0, .pointer (some t_2), .slice l_3p l_3l l_3c, .int .u64 m_4] => (n_0 = n_00 ∧ t_2 = t_20 ∧ True) ∧ I ⟨l_3p, l_3l, l_3c⟩ m_4 w
  | _ => False

def probityref01_of_M1 (μ : Sl → Int → World → Nat) (vs : List Value) (w : World) : Nat :=
  match vs with
  | [.int .i64 _n_0, .pointer (some _t_2), .slice l_3p l_3l l_3c, .int .u64 m_4] => μ ⟨l_3p, l_3l, l_3c⟩ m_4 w
  | _ => 0

theorem probityref01_of_h1 (Kv : VW) : holdsAt Tryz.prog probityref01_of_E 25 (probityref01_of_O Kv) 1 := holdsAt_loop (by kernel_rfl) (fun ρ vs w h => by
  rw [probityref01_of_q1] at h
  unfold probityref01_of_P1 at h
  split at h
  · rename_i ρt n_0 t_2 l_3p l_3l l_3c m_4
    obtain ⟨I, μ, h0, hr⟩ := h.out
    refine ⟨probityref01_of_I1 n_0 t_2 I, probityref01_of_M1 μ, ⟨⟨rfl, rfl, trivial⟩, h0⟩, fun vs w hI => ?_⟩
    unfold probityref01_of_I1 at hI
    split at hI
    · obtain ⟨⟨h0, h1, _⟩, hI⟩ := hI
      cases h0; cases h1
      rw [← probityref01_of_e1]
      exact hr _ _ _ hI
    · exact hI.elim
  · exact h.elim)

theorem probityref01_of_n (Kv : VW) : obAt (probityref01_of_O Kv) 2 = none := by kernel_rfl

theorem probityref01_of_h (Kv : VW) : ∀ k, holdsAt Tryz.prog probityref01_of_E 25 (probityref01_of_O Kv) k := fun k => match k with
  | 0 => probityref01_of_h0 Kv
  | 1 => probityref01_of_h1 Kv
  | _k + 2 => holdsAt_ge (probityref01_of_n Kv) (Nat.le_add_left _ _)

theorem probityref01_of_ok : Sound Tryz.prog 54 probityref01_of_S := ⟨Tryz.call54, fun vs w Kv h => by
  unfold probityref01_of_S at h
  split at h
  · have h := h.out
    rw [probityref01_of_e] at h
    exact calls_sound (Γ := probityref01_of_E) progMixed trivial Tryz.func54 (code := probityref01_of_C) (by kernel_rfl) (probityref01_of_A Kv) Kv (holds_all (probityref01_of_h Kv)) (Nat.le_of_ble_eq_true (by kernel_rfl)) h
  · exact h.elim⟩

/-! probityref01_fit -/
def probityref01_fit_k1d (m_5 : Int)  (K : Int → Bool → World → Prop) (w : World) : Prop :=
  cnd (decide (m_5 ≥ (9223372036854775808 : Int)))
    (K (0 : Int) false w)
    (K (IntKind.wrap .i64 m_5) true w)
structure probityref01_fit_k1 (m_5 : Int)  (K : Int → Bool → World → Prop) (w : World) : Prop where
  out : probityref01_fit_k1d m_5 K w

def probityref01_fit_b0 (a_1 : Addr) (l_4 : Sl) (m_5 : Int) (i_6 : Int) (N0 : Addr → Sl → Int → Int → World → Prop)  (K : Int → Bool → World → Prop) (w : World) : Prop :=
  cnd (decide (i_6 ≥ (0 : Int)))
    (nz l_4.p fun a5 => (0 ≤ i_6 ∧ i_6 < (l_4.l : Nat)) ∧ ∃ x6 : Int, w.cell? (a5.add (i_6.toNat * 1)) = some (Value.int .i64 x6) ∧ N0 a_1 l_4 (IntKind.wrap .u64 ((IntKind.wrap .u64 (m_5 * (65536 : Int))) + (IntKind.wrap .u64 x6))) (IntKind.wrap .i64 (i_6 - (1 : Int))) w)
    (∃ x7 : Bool, w.cell? a_1 = some (Value.bool x7) ∧ cnd x7
    (cnd (decide (m_5 ≤ (9223372036854775808 : Int)))
    (K (IntKind.wrap .i64 (IntKind.wrap .u64 ((0 : Int) - m_5))) true w)
    (probityref01_fit_k1 m_5 K w))
    (probityref01_fit_k1 m_5 K w))
def probityref01_fit_l0d (a_1 : Addr) (l_4 : Sl) (m_5 : Int) (i_6 : Int)  (K : Int → Bool → World → Prop) (w : World) : Prop :=
  ∃ (I : Int → Int → World → Prop) (μ : Int → Int → World → Nat), I m_5 i_6 w ∧ ∀ (m_51 : Int) (i_61 : Int) (w1 : World), I m_51 i_61 w1 →
    probityref01_fit_b0 a_1 l_4 m_51 i_61 (fun (a_1' : Addr) (l_4' : Sl) (m_5' : Int) (i_6' : Int) (w' : World) => ((a_1' = a_1 ∧ l_4' = l_4 ∧ True) ∧ I m_5' i_6' w') ∧ μ m_5' i_6' w' < μ m_51 i_61 w1)  K w1
structure probityref01_fit_l0 (a_1 : Addr) (l_4 : Sl) (m_5 : Int) (i_6 : Int)  (K : Int → Bool → World → Prop) (w : World) : Prop where
  out : probityref01_fit_l0d a_1 l_4 m_5 i_6 K w

def probityref01_fit_sd (a_0_0 : Bool) (a_0_1 : Sl) (K : Int → Bool → World → Prop) (w : World) : Prop :=
  let w1 : World := w.alloc (Obj.cells #[(Value.bool a_0_0), (Value.slice a_0_1.p a_0_1.l a_0_1.c)] 74)
  ∃ x2 : Sl, w1.cell? (Addr.mk w.heap.size 1 none) = some (Value.slice x2.p x2.l x2.c) ∧ probityref01_trim_sh x2 (fun (r4 : Sl) (w3 : World) => cnd (decide ((r4.l : Int) > (4 : Int)))
    (K (0 : Int) false w3)
    (probityref01_fit_l0 (Addr.mk w.heap.size 0 none) r4 (0 : Int) (IntKind.wrap .i64 ((r4.l : Int) - (1 : Int))) K w3)) w1

structure probityref01_fit_sh (a_0_0 : Bool) (a_0_1 : Sl) (K : Int → Bool → World → Prop) (w : World) : Prop where
  out : probityref01_fit_sd a_0_0 a_0_1 K w

def probityref01_fit_P0 (Kv : VW) (ρ : Rho) (vs : List Value) (w : World) : Prop :=
  match ρ, vs with
  | _, [.pointer (some a_1), .slice l_4p l_4l l_4c, .int .u64 m_5, .int .i64 i_6] => probityref01_fit_l0 a_1 ⟨l_4p, l_4l, l_4c⟩ m_5 i_6  (fun (r0 : Int) (r1 : Bool) (w' : World) => Kv (Value.tuple #[(Value.int .i64 r0), (Value.bool r1)]) w') w
  | _, _ => False

def probityref01_fit_P1 (Kv : VW) (ρ : Rho) (vs : List Value) (w : World) : Prop :=
  match ρ, vs with
  | _, [.int .u64 m_5] => probityref01_fit_k1 m_5  (fun (r0 : Int) (r1 : Bool) (w' : World) => Kv (Value.tuple #[(Value.int .i64 r0), (Value.bool r1)]) w') w
  | _, _ => False

noncomputable def probityref01_fit_S : Pw.Spec := fun vs w Kv =>
  match vs with
  | [.agg ⟨[.bool a_0_0, .slice a_0_1p a_0_1l a_0_1c]⟩] => probityref01_fit_sh a_0_0 ⟨a_0_1p, a_0_1l, a_0_1c⟩ (fun (r0 : Int) (r1 : Bool) (w' : World) => Kv (Value.tuple #[(Value.int .i64 r0), (Value.bool r1)]) w') w
  | _ => False

noncomputable def probityref01_fit_E : Pw.Env := [(66, probityref01_trim_S)]

noncomputable def probityref01_fit_C : Code := (Tryz.f77.body).getD .skip

noncomputable def probityref01_fit_A (Kv : VW) : Pw.A :=
  (A.seq (A.reg (RA.run (RA.run (RA.run RA.done))))
   (A.seq (A.reg (RA.run (RA.run (RA.run (RA.run RA.done)))))
   (A.seq (A.seq (A.reg (RA.run (RA.run (RA.run RA.done))))
   (A.cond (A.seq (A.reg (RA.run (RA.run RA.done)))
   A.leaf)
   A.leaf))
   (A.seq (A.reg (RA.run RA.done))
   (A.seq (A.seq (A.reg (RA.run (RA.run (RA.raw (RA.run RA.done)))))
   (A.blk (A.loop [1, 4, 5, 6] (probityref01_fit_P0 Kv) (A.seq (A.seq (A.reg (RA.run (RA.run RA.done)))
   (A.cond A.leaf
   A.leaf))
   (A.seq (A.blk (A.reg (RA.run (RA.raw (RA.run (RA.run (RA.run (RA.run (RA.raw (RA.raw (RA.run RA.done)))))))))))
   (A.reg (RA.run (RA.raw (RA.run RA.done)))))))))
   (A.seq (A.seq (A.reg (RA.run (RA.run (RA.run (RA.spl 30 (RA.run (RA.run (RA.run RA.done))) (RA.skp (RA.skp (RA.run RA.done))))))))
   (A.cond (A.seq (A.reg (RA.run (RA.raw (RA.raw (RA.run (RA.run RA.done))))))
   A.leaf)
   A.leaf))
   (A.cut [5] (probityref01_fit_P1 Kv) (A.seq (A.seq (A.reg (RA.run (RA.run RA.done)))
   (A.cond (A.seq (A.reg (RA.run (RA.run RA.done)))
   A.leaf)
   A.leaf))
   (A.seq (A.reg (RA.run (RA.raw (RA.run (RA.run RA.done)))))
   A.leaf)))))))))

noncomputable def probityref01_fit_O (Kv : VW) : List Ob := (obs Tryz.prog probityref01_fit_E 41 (probityref01_fit_A Kv) probityref01_fit_C (fun _ => retQ Tryz.prog Tryz.f77.results Kv))

theorem probityref01_fit_e (Kv : VW) (a_0_0 : Bool) (a_0_1p : Option Addr) (a_0_1l a_0_1c : Nat) (w : World) : probityref01_fit_sd a_0_0 ⟨a_0_1p, a_0_1l, a_0_1c⟩ (fun (r0 : Int) (r1 : Bool) (w' : World) => Kv (Value.tuple #[(Value.int .i64 r0), (Value.bool r1)]) w') w = W Tryz.prog probityref01_fit_E 41 (probityref01_fit_A Kv) probityref01_fit_C [] (retQ Tryz.prog Tryz.f77.results Kv) [] (startS [(Value.agg #[(Value.bool a_0_0), (Value.slice a_0_1p a_0_1l a_0_1c)])]) w := by kernel_rfl

theorem probityref01_fit_e0 (Kv : VW) (N0 : List Value → World → Prop) (ρ : Rho) (a_1 : Addr) (l_4p : Option Addr) (l_4l l_4c : Nat) (m_5 : Int) (i_6 : Int) (w : World) : probityref01_fit_b0 a_1 ⟨l_4p, l_4l, l_4c⟩ m_5 i_6 (fun (a_1' : Addr) (l_4' : Sl) (m_5' : Int) (i_6' : Int) (w' : World) => N0 [(Value.pointer (some a_1')), (Value.slice l_4'.p l_4'.l l_4'.c), (Value.int .u64 m_5'), (Value.int .i64 i_6')] w')  (fun (r0 : Int) (r1 : Bool) (w' : World) => Kv (Value.tuple #[(Value.int .i64 r0), (Value.bool r1)]) w') w = goalAt Tryz.prog probityref01_fit_E 41 (probityref01_fit_O Kv) 0 (N0 :: ρ) [(Value.pointer (some a_1)), (Value.slice l_4p l_4l l_4c), (Value.int .u64 m_5), (Value.int .i64 i_6)] w := by kernel_rfl

theorem probityref01_fit_q0 (Kv : VW) (ρ : Rho) (vs : List Value) (w : World) : labAt (probityref01_fit_O Kv) 0 ρ vs w = probityref01_fit_P0 Kv ρ vs w := by kernel_rfl

def probityref01_fit_I0 (a_10 : Addr) (l_40 : Sl) (I : Int → Int → World → Prop) (vs : List Value) (w : World) : Prop :=
  match vs with
  | [.pointer (some a_1), .slice l_4p l_4l l_4c, .int .u64 m_5, .int .i64 i_6] => (a_1 = a_10 ∧ ⟨l_4p, l_4l, l_4c⟩ = l_40 ∧ True) ∧ I m_5 i_6 w
  | _ => False

def probityref01_fit_M0 (μ : Int → Int → World → Nat) (vs : List Value) (w : World) : Nat :=
  match vs with
  | [.pointer (some _a_1), .slice _l_4p _l_4l _l_4c, .int .u64 m_5, .int .i64 i_6] => μ m_5 i_6 w
  | _ => 0

theorem probityref01_fit_h0 (Kv : VW) : holdsAt Tryz.prog probityref01_fit_E 41 (probityref01_fit_O Kv) 0 := holdsAt_loop (by kernel_rfl) (fun ρ vs w h => by
  rw [probityref01_fit_q0] at h
  unfold probityref01_fit_P0 at h
  split at h
  · rename_i ρt a_1 l_4p l_4l l_4c m_5 i_6
    obtain ⟨I, μ, h0, hr⟩ := h.out
    refine ⟨probityref01_fit_I0 a_1 ⟨l_4p, l_4l, l_4c⟩ I, probityref01_fit_M0 μ, ⟨⟨rfl, rfl, trivial⟩, h0⟩, fun vs w hI => ?_⟩
    unfold probityref01_fit_I0 at hI
    split at hI
    · obtain ⟨⟨h0, h1, _⟩, hI⟩ := hI
      cases h0; cases h1
      rw [← probityref01_fit_e0]
      exact hr _ _ _ hI
    · exact hI.elim
  · exact h.elim)

theorem probityref01_fit_e1 (Kv : VW) (ρ : Rho) (m_5 : Int) (w : World) : probityref01_fit_k1d m_5  (fun (r0 : Int) (r1 : Bool) (w' : World) => Kv (Value.tuple #[(Value.int .i64 r0), (Value.bool r1)]) w') w = goalAt Tryz.prog probityref01_fit_E 41 (probityref01_fit_O Kv) 1 (ρ) [(Value.int .u64 m_5)] w := by kernel_rfl

theorem probityref01_fit_q1 (Kv : VW) (ρ : Rho) (vs : List Value) (w : World) : labAt (probityref01_fit_O Kv) 1 ρ vs w = probityref01_fit_P1 Kv ρ vs w := by kernel_rfl

theorem probityref01_fit_h1 (Kv : VW) : holdsAt Tryz.prog probityref01_fit_E 41 (probityref01_fit_O Kv) 1 := holdsAt_cut (.inl (by kernel_rfl)) (fun ρ vs w h => by
  rw [probityref01_fit_q1] at h
  unfold probityref01_fit_P1 at h
  split at h
  · rw [← probityref01_fit_e1]; exact h.out
  · exact h.elim)

theorem probityref01_fit_n (Kv : VW) : obAt (probityref01_fit_O Kv) 2 = none := by kernel_rfl

theorem probityref01_fit_h (Kv : VW) : ∀ k, holdsAt Tryz.prog probityref01_fit_E 41 (probityref01_fit_O Kv) k := fun k => match k with
  | 0 => probityref01_fit_h0 Kv
  | 1 => probityref01_fit_h1 Kv
  | _k + 2 => holdsAt_ge (probityref01_fit_n Kv) (Nat.le_add_left _ _)

theorem probityref01_fit_ok : Sound Tryz.prog 77 probityref01_fit_S := ⟨Tryz.call77, fun vs w Kv h => by
  unfold probityref01_fit_S at h
  split at h
  · have h := h.out
    rw [probityref01_fit_e] at h
    exact calls_sound (Γ := probityref01_fit_E) progMixed ⟨.inl probityref01_trim_ok, trivial⟩ Tryz.func77 (code := probityref01_fit_C) (by kernel_rfl) (probityref01_fit_A Kv) Kv (holds_all (probityref01_fit_h Kv)) (Nat.le_of_ble_eq_true (by kernel_rfl)) h
  · exact h.elim⟩

/-! probityref01_Of -/
def probityref01_Of_sd (n_0 : Int) (K : Int → Int → World → Prop) (w : World) : Prop :=
  let w1 : World := w.alloc (Obj.cells #[(Value.int .i64 (0 : Int)), (Value.int .i64 (0 : Int))] 26)
  wrOk w1 (Addr.mk w.heap.size 0 none) ∧ 
  (let w2 : World := w1.setCell (Addr.mk w.heap.size 0 none) (Value.int .i64 n_0)
  wrOk w2 (Addr.mk w.heap.size 1 none) ∧ 
  (let w3 : World := w2.setCell (Addr.mk w.heap.size 1 none) (Value.int .i64 (1 : Int))
  ∃ x4 : Int, w3.cell? (Addr.mk w.heap.size 0 none) = some (Value.int .i64 x4) ∧ ∃ x5 : Int, w3.cell? (Addr.mk w.heap.size 1 none) = some (Value.int .i64 x5) ∧ K x4 x5 w3))

structure probityref01_Of_sh (n_0 : Int) (K : Int → Int → World → Prop) (w : World) : Prop where
  out : probityref01_Of_sd n_0 K w

noncomputable def probityref01_Of_S : Pw.Spec := fun vs w Kv =>
  match vs with
  | [.int .i64 n_0] => probityref01_Of_sh n_0 (fun (r0_0 : Int) (r0_1 : Int) (w' : World) => Kv (Value.agg #[(Value.int .i64 r0_0), (Value.int .i64 r0_1)]) w') w
  | _ => False

noncomputable def probityref01_Of_E : Pw.Env := []

noncomputable def probityref01_Of_C : Code := (Tryz.f24.body).getD .skip

noncomputable def probityref01_Of_A (_Kv : VW) : Pw.A :=
  (A.seq (A.reg (RA.run RA.done))
   (A.seq (A.reg (RA.run (RA.run (RA.run RA.done))))
   A.leaf))

noncomputable def probityref01_Of_O (Kv : VW) : List Ob := (obs Tryz.prog probityref01_Of_E 5 (probityref01_Of_A Kv) probityref01_Of_C (fun _ => retQ Tryz.prog Tryz.f24.results Kv))

theorem probityref01_Of_e (Kv : VW) (n_0 : Int) (w : World) : probityref01_Of_sd n_0 (fun (r0_0 : Int) (r0_1 : Int) (w' : World) => Kv (Value.agg #[(Value.int .i64 r0_0), (Value.int .i64 r0_1)]) w') w = W Tryz.prog probityref01_Of_E 5 (probityref01_Of_A Kv) probityref01_Of_C [] (retQ Tryz.prog Tryz.f24.results Kv) [] (startS [(Value.int .i64 n_0)]) w := by kernel_rfl

theorem probityref01_Of_n (Kv : VW) : obAt (probityref01_Of_O Kv) 0 = none := by kernel_rfl

theorem probityref01_Of_h (Kv : VW) : ∀ k, holdsAt Tryz.prog probityref01_Of_E 5 (probityref01_Of_O Kv) k := fun _ => holdsAt_ge (probityref01_Of_n Kv) (Nat.zero_le _)

theorem probityref01_Of_ok : Sound Tryz.prog 24 probityref01_Of_S := ⟨Tryz.call24, fun vs w Kv h => by
  unfold probityref01_Of_S at h
  split at h
  · have h := h.out
    rw [probityref01_Of_e] at h
    exact calls_sound (Γ := probityref01_Of_E) progMixed trivial Tryz.func24 (code := probityref01_Of_C) (by kernel_rfl) (probityref01_Of_A Kv) Kv (holds_all (probityref01_Of_h Kv)) (Nat.le_of_ble_eq_true (by kernel_rfl)) h
  · exact h.elim⟩

/-! probityref01_lowest -/
def probityref01_lowest_k1d (t_4 : Addr)  (K : Int → Int → Bool → World → Prop) (w : World) : Prop :=
  probityref01_Of_sh (0 : Int) (fun (r32_0 : Int) (r32_1 : Int) (w31 : World) => wrOk w31 t_4 ∧ 
  (let w33 : World := w31.setCell t_4 (Value.int .i64 r32_0)
  wrOk w33 (t_4.add 1) ∧ 
  (let w34 : World := w33.setCell (t_4.add 1) (Value.int .i64 r32_1)
  ∃ x35 : Int, w34.cell? t_4 = some (Value.int .i64 x35) ∧ ∃ x36 : Int, w34.cell? (t_4.add 1) = some (Value.int .i64 x36) ∧ K x35 x36 false w34))) w
structure probityref01_lowest_k1 (t_4 : Addr)  (K : Int → Int → Bool → World → Prop) (w : World) : Prop where
  out : probityref01_lowest_k1d t_4 K w

def probityref01_lowest_k0d (t_4 : Addr) (y_9 : Sl) (num_11 : Int) (one_12 : Bool)  (K : Int → Int → Bool → World → Prop) (w : World) : Prop :=
  probityref01_fit_sh false y_9 (fun (r29 : Int) (r30 : Bool) (w28 : World) => cnd (!one_12)
    (probityref01_lowest_k1 t_4 K w28)
    (cnd (!r30)
    (probityref01_lowest_k1 t_4 K w28)
    (wrOk w28 t_4 ∧ 
  (let w37 : World := w28.setCell t_4 (Value.int .i64 num_11)
  wrOk w37 (t_4.add 1) ∧ 
  (let w38 : World := w37.setCell (t_4.add 1) (Value.int .i64 r29)
  ∃ x39 : Int, w38.cell? t_4 = some (Value.int .i64 x39) ∧ ∃ x40 : Int, w38.cell? (t_4.add 1) = some (Value.int .i64 x40) ∧ K x39 x40 true w38))))) w
structure probityref01_lowest_k0 (t_4 : Addr) (y_9 : Sl) (num_11 : Int) (one_12 : Bool)  (K : Int → Int → Bool → World → Prop) (w : World) : Prop where
  out : probityref01_lowest_k0d t_4 y_9 num_11 one_12 K w

def probityref01_lowest_sd (n_0_0 : Bool) (n_0_1 : Sl) (d_1_0 : Bool) (d_1_1 : Sl) (K : Int → Int → Bool → World → Prop) (w : World) : Prop :=
  let w1 : World := w.alloc (Obj.cells #[(Value.bool n_0_0), (Value.slice n_0_1.p n_0_1.l n_0_1.c)] 74)
  let w2 : World := w1.alloc (Obj.cells #[(Value.bool d_1_0), (Value.slice d_1_1.p d_1_1.l d_1_1.c)] 74)
  let w3 : World := w2.alloc (Obj.cells #[(Value.int .i64 (0 : Int)), (Value.int .i64 (0 : Int))] 26)
  ∃ x4 : Sl, w3.cell? (Addr.mk w.heap.size 1 none) = some (Value.slice x4.p x4.l x4.c) ∧ ∃ x5 : Sl, w3.cell? (Addr.mk w1.heap.size 1 none) = some (Value.slice x5.p x5.l x5.c) ∧ probityref01_common_sh x4 x5 (fun (r7 : Sl) (w6 : World) => ∃ x8 : Sl, w6.cell? (Addr.mk w.heap.size 1 none) = some (Value.slice x8.p x8.l x8.c) ∧ probityref01_trim_sh x8 (fun (r10 : Sl) (w9 : World) => probityref01_over_sh r10 r7 (fun (r12 : Sl) (_r13 : Sl) (w11 : World) => ∃ x14 : Sl, w11.cell? (Addr.mk w1.heap.size 1 none) = some (Value.slice x14.p x14.l x14.c) ∧ probityref01_trim_sh x14 (fun (r16 : Sl) (w15 : World) => probityref01_over_sh r16 r7 (fun (r18 : Sl) (_r19 : Sl) (w17 : World) => ∃ x20 : Bool, w17.cell? (Addr.mk w.heap.size 0 none) = some (Value.bool x20) ∧ ∃ x21 : Bool, w17.cell? (Addr.mk w1.heap.size 0 none) = some (Value.bool x21) ∧ cnd (!(x20 == x21))
    (probityref01_fit_sh (decide ((r12.l : Int) > (0 : Int))) r12 (fun (r23 : Int) (r24 : Bool) (w22 : World) => probityref01_lowest_k0 (Addr.mk w2.heap.size 0 none) r18 r23 r24 K w22) w17)
    (probityref01_fit_sh false r12 (fun (r26 : Int) (r27 : Bool) (w25 : World) => probityref01_lowest_k0 (Addr.mk w2.heap.size 0 none) r18 r26 r27 K w25) w17)) w15) w11) w9) w6) w3

structure probityref01_lowest_sh (n_0_0 : Bool) (n_0_1 : Sl) (d_1_0 : Bool) (d_1_1 : Sl) (K : Int → Int → Bool → World → Prop) (w : World) : Prop where
  out : probityref01_lowest_sd n_0_0 n_0_1 d_1_0 d_1_1 K w

def probityref01_lowest_P0 (Kv : VW) (ρ : Rho) (vs : List Value) (w : World) : Prop :=
  match ρ, vs with
  | _, [.pointer (some t_4), .slice y_9p y_9l y_9c, .int .i64 num_11, .bool one_12] => probityref01_lowest_k0 t_4 ⟨y_9p, y_9l, y_9c⟩ num_11 one_12  (fun (r0_0 : Int) (r0_1 : Int) (r1 : Bool) (w' : World) => Kv (Value.tuple #[(Value.agg #[(Value.int .i64 r0_0), (Value.int .i64 r0_1)]), (Value.bool r1)]) w') w
  | _, _ => False

def probityref01_lowest_P1 (Kv : VW) (ρ : Rho) (vs : List Value) (w : World) : Prop :=
  match ρ, vs with
  | _, [.pointer (some t_4)] => probityref01_lowest_k1 t_4  (fun (r0_0 : Int) (r0_1 : Int) (r1 : Bool) (w' : World) => Kv (Value.tuple #[(Value.agg #[(Value.int .i64 r0_0), (Value.int .i64 r0_1)]), (Value.bool r1)]) w') w
  | _, _ => False

noncomputable def probityref01_lowest_S : Pw.Spec := fun vs w Kv =>
  match vs with
  | [.agg ⟨[.bool n_0_0, .slice n_0_1p n_0_1l n_0_1c]⟩, .agg ⟨[.bool d_1_0, .slice d_1_1p d_1_1l d_1_1c]⟩] => probityref01_lowest_sh n_0_0 ⟨n_0_1p, n_0_1l, n_0_1c⟩ d_1_0 ⟨d_1_1p, d_1_1l, d_1_1c⟩ (fun (r0_0 : Int) (r0_1 : Int) (r1 : Bool) (w' : World) => Kv (Value.tuple #[(Value.agg #[(Value.int .i64 r0_0), (Value.int .i64 r0_1)]), (Value.bool r1)]) w') w
  | _ => False

noncomputable def probityref01_lowest_E : Pw.Env := [(24, probityref01_Of_S), (66, probityref01_trim_S), (75, probityref01_common_S), (76, probityref01_over_S), (77, probityref01_fit_S)]

noncomputable def probityref01_lowest_C : Code := (Tryz.f53.body).getD .skip

noncomputable def probityref01_lowest_A (Kv : VW) : Pw.A :=
  (A.seq (A.reg (RA.run (RA.run (RA.run (RA.run RA.done)))))
   (A.seq (A.reg (RA.run (RA.run (RA.run (RA.run (RA.run (RA.run RA.done)))))))
   (A.seq (A.reg (RA.run (RA.run (RA.run (RA.run (RA.run (RA.run (RA.run (RA.run (RA.run (RA.run RA.done)))))))))))
   (A.seq (A.reg (RA.run (RA.run (RA.run (RA.run (RA.run (RA.run (RA.run (RA.run (RA.run (RA.run RA.done)))))))))))
   (A.seq (A.reg (RA.run (RA.run (RA.run (RA.run (RA.run (RA.run (RA.spl 42 (RA.run (RA.run (RA.run (RA.run (RA.run (RA.run (RA.run (RA.run (RA.run (RA.run (RA.run (RA.run RA.done)))))))))))) (RA.skp (RA.skp (RA.skp (RA.run (RA.run (RA.run (RA.run (RA.run (RA.run (RA.run (RA.run (RA.run RA.done))))))))))))))))))))
   (A.cut [4, 9, 11, 12] (probityref01_lowest_P0 Kv) (A.seq (A.reg (RA.run (RA.run (RA.run (RA.run (RA.run (RA.run (RA.run (RA.run RA.done)))))))))
   (A.seq (A.seq (A.reg (RA.run (RA.run (RA.run (RA.spl 60 (RA.skp (RA.skp (RA.run RA.done))) (RA.run (RA.run (RA.run RA.done))))))))
   (A.cond (A.cut [4] (probityref01_lowest_P1 Kv) (A.seq (A.reg (RA.run (RA.run (RA.run RA.done))))
   A.leaf))
   A.leaf))
   (A.seq (A.reg (RA.run (RA.run (RA.run (RA.run (RA.run RA.done))))))
   A.leaf)))))))))

noncomputable def probityref01_lowest_O (Kv : VW) : List Ob := (obs Tryz.prog probityref01_lowest_E 68 (probityref01_lowest_A Kv) probityref01_lowest_C (fun _ => retQ Tryz.prog Tryz.f53.results Kv))

theorem probityref01_lowest_e (Kv : VW) (n_0_0 : Bool) (n_0_1p : Option Addr) (n_0_1l n_0_1c : Nat) (d_1_0 : Bool) (d_1_1p : Option Addr) (d_1_1l d_1_1c : Nat) (w : World) : probityref01_lowest_sd n_0_0 ⟨n_0_1p, n_0_1l, n_0_1c⟩ d_1_0 ⟨d_1_1p, d_1_1l, d_1_1c⟩ (fun (r0_0 : Int) (r0_1 : Int) (r1 : Bool) (w' : World) => Kv (Value.tuple #[(Value.agg #[(Value.int .i64 r0_0), (Value.int .i64 r0_1)]), (Value.bool r1)]) w') w = W Tryz.prog probityref01_lowest_E 68 (probityref01_lowest_A Kv) probityref01_lowest_C [] (retQ Tryz.prog Tryz.f53.results Kv) [] (startS [(Value.agg #[(Value.bool n_0_0), (Value.slice n_0_1p n_0_1l n_0_1c)]), (Value.agg #[(Value.bool d_1_0), (Value.slice d_1_1p d_1_1l d_1_1c)])]) w := by kernel_rfl

theorem probityref01_lowest_e0 (Kv : VW) (ρ : Rho) (t_4 : Addr) (y_9p : Option Addr) (y_9l y_9c : Nat) (num_11 : Int) (one_12 : Bool) (w : World) : probityref01_lowest_k0d t_4 ⟨y_9p, y_9l, y_9c⟩ num_11 one_12  (fun (r0_0 : Int) (r0_1 : Int) (r1 : Bool) (w' : World) => Kv (Value.tuple #[(Value.agg #[(Value.int .i64 r0_0), (Value.int .i64 r0_1)]), (Value.bool r1)]) w') w = goalAt Tryz.prog probityref01_lowest_E 68 (probityref01_lowest_O Kv) 0 (ρ) [(Value.pointer (some t_4)), (Value.slice y_9p y_9l y_9c), (Value.int .i64 num_11), (Value.bool one_12)] w := by kernel_rfl

theorem probityref01_lowest_q0 (Kv : VW) (ρ : Rho) (vs : List Value) (w : World) : labAt (probityref01_lowest_O Kv) 0 ρ vs w = probityref01_lowest_P0 Kv ρ vs w := by kernel_rfl

theorem probityref01_lowest_h0 (Kv : VW) : holdsAt Tryz.prog probityref01_lowest_E 68 (probityref01_lowest_O Kv) 0 := holdsAt_cut (.inl (by kernel_rfl)) (fun ρ vs w h => by
  rw [probityref01_lowest_q0] at h
  unfold probityref01_lowest_P0 at h
  split at h
  · rw [← probityref01_lowest_e0]; exact h.out
  · exact h.elim)

theorem probityref01_lowest_e1 (Kv : VW) (ρ : Rho) (t_4 : Addr) (w : World) : probityref01_lowest_k1d t_4  (fun (r0_0 : Int) (r0_1 : Int) (r1 : Bool) (w' : World) => Kv (Value.tuple #[(Value.agg #[(Value.int .i64 r0_0), (Value.int .i64 r0_1)]), (Value.bool r1)]) w') w = goalAt Tryz.prog probityref01_lowest_E 68 (probityref01_lowest_O Kv) 1 (ρ) [(Value.pointer (some t_4))] w := by kernel_rfl

theorem probityref01_lowest_q1 (Kv : VW) (ρ : Rho) (vs : List Value) (w : World) : labAt (probityref01_lowest_O Kv) 1 ρ vs w = probityref01_lowest_P1 Kv ρ vs w := by kernel_rfl

theorem probityref01_lowest_h1 (Kv : VW) : holdsAt Tryz.prog probityref01_lowest_E 68 (probityref01_lowest_O Kv) 1 := holdsAt_cut (.inl (by kernel_rfl)) (fun ρ vs w h => by
  rw [probityref01_lowest_q1] at h
  unfold probityref01_lowest_P1 at h
  split at h
  · rw [← probityref01_lowest_e1]; exact h.out
  · exact h.elim)

theorem probityref01_lowest_n (Kv : VW) : obAt (probityref01_lowest_O Kv) 2 = none := by kernel_rfl

theorem probityref01_lowest_h (Kv : VW) : ∀ k, holdsAt Tryz.prog probityref01_lowest_E 68 (probityref01_lowest_O Kv) k := fun k => match k with
  | 0 => probityref01_lowest_h0 Kv
  | 1 => probityref01_lowest_h1 Kv
  | _k + 2 => holdsAt_ge (probityref01_lowest_n Kv) (Nat.le_add_left _ _)

theorem probityref01_lowest_ok : Sound Tryz.prog 53 probityref01_lowest_S := ⟨Tryz.call53, fun vs w Kv h => by
  unfold probityref01_lowest_S at h
  split at h
  · have h := h.out
    rw [probityref01_lowest_e] at h
    exact calls_sound (Γ := probityref01_lowest_E) progMixed ⟨.inl probityref01_Of_ok, .inl probityref01_trim_ok, .inl probityref01_common_ok, .inl probityref01_over_ok, .inl probityref01_fit_ok, trivial⟩ Tryz.func53 (code := probityref01_lowest_C) (by kernel_rfl) (probityref01_lowest_A Kv) Kv (holds_all (probityref01_lowest_h Kv)) (Nat.le_of_ble_eq_true (by kernel_rfl)) h
  · exact h.elim⟩

/-! probityref01_small -/
def probityref01_small_sd (n_0 : Int) (K : Bool → World → Prop) (w : World) : Prop :=
  cnd (decide (n_0 > (-1000000000 : Int)))
    (K (decide (n_0 < (1000000000 : Int))) w)
    (K false w)

structure probityref01_small_sh (n_0 : Int) (K : Bool → World → Prop) (w : World) : Prop where
  out : probityref01_small_sd n_0 K w

noncomputable def probityref01_small_S : Pw.Spec := fun vs w Kv =>
  match vs with
  | [.int .i64 n_0] => probityref01_small_sh n_0 (fun (r0 : Bool) (w' : World) => Kv (Value.bool r0) w') w
  | _ => False

noncomputable def probityref01_small_E : Pw.Env := []

noncomputable def probityref01_small_C : Code := (Tryz.f51.body).getD .skip

noncomputable def probityref01_small_A (_Kv : VW) : Pw.A :=
  (A.seq (A.reg (RA.run RA.done))
   (A.seq (A.reg (RA.run (RA.run (RA.run (RA.spl 5 (RA.run (RA.run (RA.run (RA.run RA.done)))) (RA.skp (RA.skp (RA.run (RA.run RA.done)))))))))
   A.leaf))

noncomputable def probityref01_small_O (Kv : VW) : List Ob := (obs Tryz.prog probityref01_small_E 9 (probityref01_small_A Kv) probityref01_small_C (fun _ => retQ Tryz.prog Tryz.f51.results Kv))

theorem probityref01_small_e (Kv : VW) (n_0 : Int) (w : World) : probityref01_small_sd n_0 (fun (r0 : Bool) (w' : World) => Kv (Value.bool r0) w') w = W Tryz.prog probityref01_small_E 9 (probityref01_small_A Kv) probityref01_small_C [] (retQ Tryz.prog Tryz.f51.results Kv) [] (startS [(Value.int .i64 n_0)]) w := by kernel_rfl

theorem probityref01_small_n (Kv : VW) : obAt (probityref01_small_O Kv) 0 = none := by kernel_rfl

theorem probityref01_small_h (Kv : VW) : ∀ k, holdsAt Tryz.prog probityref01_small_E 9 (probityref01_small_O Kv) k := fun _ => holdsAt_ge (probityref01_small_n Kv) (Nat.zero_le _)

theorem probityref01_small_ok : Sound Tryz.prog 51 probityref01_small_S := ⟨Tryz.call51, fun vs w Kv h => by
  unfold probityref01_small_S at h
  split at h
  · have h := h.out
    rw [probityref01_small_e] at h
    exact calls_sound (Γ := probityref01_small_E) progMixed trivial Tryz.func51 (code := probityref01_small_C) (by kernel_rfl) (probityref01_small_A Kv) Kv (holds_all (probityref01_small_h Kv)) (Nat.le_of_ble_eq_true (by kernel_rfl)) h
  · exact h.elim⟩

/-! probityref01_quick -/
def probityref01_quick_b1 (num_0 : Int) (den_1 : Int) (t_4 : Addr) (a_5 : Int) (b_6 : Int) (N1 : Int → Int → Addr → Int → Int → World → Prop)  (K : Int → Int → World → Prop) (w : World) : Prop :=
  cnd (decide (b_6 > (0 : Int)))
    (b_6 ≠ 0 ∧ N1 num_0 den_1 t_4 b_6 (Int.tmod a_5 b_6) w)
    (let w2 : World := w.drew
  ∃ S3 : World → Prop, S3 w2 ∧ a_5 ≠ 0 ∧ inR .i64 (Int.tdiv num_0 a_5) ∧ a_5 ≠ 0 ∧ inR .i64 (Int.tdiv den_1 a_5) ∧ wrOk w2 t_4 ∧ 
  (let w4 : World := w2.setCell t_4 (Value.int .i64 (Int.tdiv num_0 a_5))
  wrOk w4 (t_4.add 1) ∧ 
  (let w5 : World := w4.setCell (t_4.add 1) (Value.int .i64 (Int.tdiv den_1 a_5))
  ∃ x6 : Int, w5.cell? t_4 = some (Value.int .i64 x6) ∧ ∃ x7 : Int, w5.cell? (t_4.add 1) = some (Value.int .i64 x7) ∧ K x6 x7 w5)))
def probityref01_quick_l1d (num_0 : Int) (den_1 : Int) (t_4 : Addr) (a_5 : Int) (b_6 : Int)  (K : Int → Int → World → Prop) (w : World) : Prop :=
  ∃ (I : Int → Int → World → Prop) (μ : Int → Int → World → Nat), I a_5 b_6 w ∧ ∀ (a_51 : Int) (b_61 : Int) (w1 : World), I a_51 b_61 w1 →
    probityref01_quick_b1 num_0 den_1 t_4 a_51 b_61 (fun (num_0' : Int) (den_1' : Int) (t_4' : Addr) (a_5' : Int) (b_6' : Int) (w' : World) => ((num_0' = num_0 ∧ den_1' = den_1 ∧ t_4' = t_4 ∧ True) ∧ I a_5' b_6' w') ∧ μ a_5' b_6' w' < μ a_51 b_61 w1)  K w1
structure probityref01_quick_l1 (num_0 : Int) (den_1 : Int) (t_4 : Addr) (a_5 : Int) (b_6 : Int)  (K : Int → Int → World → Prop) (w : World) : Prop where
  out : probityref01_quick_l1d num_0 den_1 t_4 a_5 b_6 K w

def probityref01_quick_k0d (num_0 : Int) (den_1 : Int) (t_4 : Addr)  (K : Int → Int → World → Prop) (w : World) : Prop :=
  inR .i64 (-num_0) ∧ probityref01_quick_l1 num_0 den_1 t_4 (max num_0 (-num_0)) den_1 K w
structure probityref01_quick_k0 (num_0 : Int) (den_1 : Int) (t_4 : Addr)  (K : Int → Int → World → Prop) (w : World) : Prop where
  out : probityref01_quick_k0d num_0 den_1 t_4 K w

def probityref01_quick_sd (num_0 : Int) (den_1 : Int) (K : Int → Int → World → Prop) (w : World) : Prop :=
  let w1 : World := w.alloc (Obj.cells #[(Value.int .i64 (0 : Int)), (Value.int .i64 (0 : Int))] 26)
  cnd (decide (den_1 < (0 : Int)))
    (inR .i64 (-num_0) ∧ inR .i64 (-den_1) ∧ probityref01_quick_k0 (-num_0) (-den_1) (Addr.mk w.heap.size 0 none) K w1)
    (probityref01_quick_k0 num_0 den_1 (Addr.mk w.heap.size 0 none) K w1)

structure probityref01_quick_sh (num_0 : Int) (den_1 : Int) (K : Int → Int → World → Prop) (w : World) : Prop where
  out : probityref01_quick_sd num_0 den_1 K w

def probityref01_quick_P0 (Kv : VW) (ρ : Rho) (vs : List Value) (w : World) : Prop :=
  match ρ, vs with
  | _, [.int .i64 num_0, .int .i64 den_1, .pointer (some t_4)] => probityref01_quick_k0 num_0 den_1 t_4  (fun (r0_0 : Int) (r0_1 : Int) (w' : World) => Kv (Value.agg #[(Value.int .i64 r0_0), (Value.int .i64 r0_1)]) w') w
  | _, _ => False

def probityref01_quick_P1 (Kv : VW) (ρ : Rho) (vs : List Value) (w : World) : Prop :=
  match ρ, vs with
  | _, [.int .i64 num_0, .int .i64 den_1, .pointer (some t_4), .int .i64 a_5, .int .i64 b_6] => probityref01_quick_l1 num_0 den_1 t_4 a_5 b_6  (fun (r0_0 : Int) (r0_1 : Int) (w' : World) => Kv (Value.agg #[(Value.int .i64 r0_0), (Value.int .i64 r0_1)]) w') w
  | _, _ => False

noncomputable def probityref01_quick_S : Pw.Spec := fun vs w Kv =>
  match vs with
  | [.int .i64 num_0, .int .i64 den_1] => probityref01_quick_sh num_0 den_1 (fun (r0_0 : Int) (r0_1 : Int) (w' : World) => Kv (Value.agg #[(Value.int .i64 r0_0), (Value.int .i64 r0_1)]) w') w
  | _ => False

noncomputable def probityref01_quick_E : Pw.Env := []

noncomputable def probityref01_quick_C : Code := (Tryz.f52.body).getD .skip

noncomputable def probityref01_quick_A (Kv : VW) : Pw.A :=
  (A.seq (A.reg (RA.run RA.done))
   (A.seq (A.seq (A.reg (RA.run (RA.run RA.done)))
   (A.cond (A.seq (A.reg (RA.run (RA.run (RA.run RA.done))))
   (A.reg (RA.run (RA.run (RA.run RA.done)))))
   A.leaf))
   (A.cut [0, 1, 4] (probityref01_quick_P0 Kv) (A.seq (A.reg (RA.run (RA.run (RA.run (RA.run (RA.run RA.done))))))
   (A.seq (A.reg (RA.run (RA.run RA.done)))
   (A.seq (A.blk (A.loop [0, 1, 4, 5, 6] (probityref01_quick_P1 Kv) (A.seq (A.seq (A.reg (RA.run (RA.run RA.done)))
   (A.cond A.leaf
   A.leaf))
   (A.blk (A.seq (A.reg (RA.run (RA.run (RA.run (RA.run RA.done)))))
   (A.seq (A.reg (RA.run (RA.run RA.done)))
   (A.reg (RA.run (RA.run RA.done)))))))))
   (A.seq (A.drw (DA.pur 0 (DA.pur 1 (DA.pur 2 (DA.pur 3 (DA.pur 4 (DA.pur 5 (DA.pur 6 (DA.eff 7 DA.done)))))))))
   A.leaf)))))))

noncomputable def probityref01_quick_O (Kv : VW) : List Ob := (obs Tryz.prog probityref01_quick_E 33 (probityref01_quick_A Kv) probityref01_quick_C (fun _ => retQ Tryz.prog Tryz.f52.results Kv))

theorem probityref01_quick_e (Kv : VW) (num_0 : Int) (den_1 : Int) (w : World) : probityref01_quick_sd num_0 den_1 (fun (r0_0 : Int) (r0_1 : Int) (w' : World) => Kv (Value.agg #[(Value.int .i64 r0_0), (Value.int .i64 r0_1)]) w') w = W Tryz.prog probityref01_quick_E 33 (probityref01_quick_A Kv) probityref01_quick_C [] (retQ Tryz.prog Tryz.f52.results Kv) [] (startS [(Value.int .i64 num_0), (Value.int .i64 den_1)]) w := by kernel_rfl

theorem probityref01_quick_e0 (Kv : VW) (ρ : Rho) (num_0 : Int) (den_1 : Int) (t_4 : Addr) (w : World) : probityref01_quick_k0d num_0 den_1 t_4  (fun (r0_0 : Int) (r0_1 : Int) (w' : World) => Kv (Value.agg #[(Value.int .i64 r0_0), (Value.int .i64 r0_1)]) w') w = goalAt Tryz.prog probityref01_quick_E 33 (probityref01_quick_O Kv) 0 (ρ) [(Value.int .i64 num_0), (Value.int .i64 den_1), (Value.pointer (some t_4))] w := by kernel_rfl

theorem probityref01_quick_q0 (Kv : VW) (ρ : Rho) (vs : List Value) (w : World) : labAt (probityref01_quick_O Kv) 0 ρ vs w = probityref01_quick_P0 Kv ρ vs w := by kernel_rfl

theorem probityref01_quick_h0 (Kv : VW) : holdsAt Tryz.prog probityref01_quick_E 33 (probityref01_quick_O Kv) 0 := holdsAt_cut (.inl (by kernel_rfl)) (fun ρ vs w h => by
  rw [probityref01_quick_q0] at h
  unfold probityref01_quick_P0 at h
  split at h
  · rw [← probityref01_quick_e0]; exact h.out
  · exact h.elim)

theorem probityref01_quick_e1 (Kv : VW) (N1 : List Value → World → Prop) (ρ : Rho) (num_0 : Int) (den_1 : Int) (t_4 : Addr) (a_5 : Int) (b_6 : Int) (w : World) : probityref01_quick_b1 num_0 den_1 t_4 a_5 b_6 (fun (num_0' : Int) (den_1' : Int) (t_4' : Addr) (a_5' : Int) (b_6' : Int) (w' : World) => N1 [(Value.int .i64 num_0'), (Value.int .i64 den_1'), (Value.pointer (some t_4')), (Value.int .i64 a_5'), (Value.int .i64 b_6')] w')  (fun (r0_0 : Int) (r0_1 : Int) (w' : World) => Kv (Value.agg #[(Value.int .i64 r0_0), (Value.int .i64 r0_1)]) w') w = goalAt Tryz.prog probityref01_quick_E 33 (probityref01_quick_O Kv) 1 (N1 :: ρ) [(Value.int .i64 num_0), (Value.int .i64 den_1), (Value.pointer (some t_4)), (Value.int .i64 a_5), (Value.int .i64 b_6)] w := by kernel_rfl

theorem probityref01_quick_q1 (Kv : VW) (ρ : Rho) (vs : List Value) (w : World) : labAt (probityref01_quick_O Kv) 1 ρ vs w = probityref01_quick_P1 Kv ρ vs w := by kernel_rfl

def probityref01_quick_I1 (num_00 : Int) (den_10 : Int) (t_40 : Addr) (I : Int → Int → World → Prop) (vs : List Value) (w : World) : Prop :=
  match vs with
  | [.int .i64 num_0, .int .i64 den_1, .pointer (some t_4), .int .i64 a_5, .int .i64 b_6] => (num_0 = num_00 ∧ den_1 = den_10 ∧ t_4 = t_40 ∧ True) ∧ I a_5 b_6 w
  | _ => False

def probityref01_quick_M1 (μ : Int → Int → World → Nat) (vs : List Value) (w : World) : Nat :=
  match vs with
  | [.int .i64 _num_0, .int .i64 _den_1, .pointer (some _t_4), .int .i64 a_5, .int .i64 b_6] => μ a_5 b_6 w
  | _ => 0

theorem probityref01_quick_h1 (Kv : VW) : holdsAt Tryz.prog probityref01_quick_E 33 (probityref01_quick_O Kv) 1 := holdsAt_loop (by kernel_rfl) (fun ρ vs w h => by
  rw [probityref01_quick_q1] at h
  unfold probityref01_quick_P1 at h
  split at h
  · rename_i ρt num_0 den_1 t_4 a_5 b_6
    obtain ⟨I, μ, h0, hr⟩ := h.out
    refine ⟨probityref01_quick_I1 num_0 den_1 t_4 I, probityref01_quick_M1 μ, ⟨⟨rfl, rfl, rfl, trivial⟩, h0⟩, fun vs w hI => ?_⟩
    unfold probityref01_quick_I1 at hI
    split at hI
    · obtain ⟨⟨h0, h1, h2, _⟩, hI⟩ := hI
      cases h0; cases h1; cases h2
      rw [← probityref01_quick_e1]
      exact hr _ _ _ hI
    · exact hI.elim
  · exact h.elim)

theorem probityref01_quick_n (Kv : VW) : obAt (probityref01_quick_O Kv) 2 = none := by kernel_rfl

theorem probityref01_quick_h (Kv : VW) : ∀ k, holdsAt Tryz.prog probityref01_quick_E 33 (probityref01_quick_O Kv) k := fun k => match k with
  | 0 => probityref01_quick_h0 Kv
  | 1 => probityref01_quick_h1 Kv
  | _k + 2 => holdsAt_ge (probityref01_quick_n Kv) (Nat.le_add_left _ _)

theorem probityref01_quick_ok : Sound Tryz.prog 52 probityref01_quick_S := ⟨Tryz.call52, fun vs w Kv h => by
  unfold probityref01_quick_S at h
  split at h
  · have h := h.out
    rw [probityref01_quick_e] at h
    exact calls_sound (Γ := probityref01_quick_E) progMixed trivial Tryz.func52 (code := probityref01_quick_C) (by kernel_rfl) (probityref01_quick_A Kv) Kv (holds_all (probityref01_quick_h Kv)) (Nat.le_of_ble_eq_true (by kernel_rfl)) h
  · exact h.elim⟩

/-! probityref01_Make -/
def probityref01_Make_k0d (num_0 : Int) (den_1 : Int) (t_4 : Addr)  (K : Int → Int → Bool → World → Prop) (w : World) : Prop :=
  probityref01_of_sh num_0 (fun (r19_0 : Bool) (r19_1 : Sl) (w18 : World) => probityref01_of_sh den_1 (fun (r21_0 : Bool) (r21_1 : Sl) (w20 : World) => probityref01_lowest_sh r19_0 r19_1 r21_0 r21_1 (fun (r23_0 : Int) (r23_1 : Int) (r24 : Bool) (w22 : World) => wrOk w22 t_4 ∧ 
  (let w25 : World := w22.setCell t_4 (Value.int .i64 r23_0)
  wrOk w25 (t_4.add 1) ∧ 
  (let w26 : World := w25.setCell (t_4.add 1) (Value.int .i64 r23_1)
  ∃ x27 : Int, w26.cell? t_4 = some (Value.int .i64 x27) ∧ ∃ x28 : Int, w26.cell? (t_4.add 1) = some (Value.int .i64 x28) ∧ K x27 x28 r24 w26))) w20) w18) w
structure probityref01_Make_k0 (num_0 : Int) (den_1 : Int) (t_4 : Addr)  (K : Int → Int → Bool → World → Prop) (w : World) : Prop where
  out : probityref01_Make_k0d num_0 den_1 t_4 K w

def probityref01_Make_sd (num_0 : Int) (den_1 : Int) (K : Int → Int → Bool → World → Prop) (w : World) : Prop :=
  let w1 : World := w.alloc (Obj.cells #[(Value.int .i64 (0 : Int)), (Value.int .i64 (0 : Int))] 26)
  cnd (den_1 == (0 : Int))
    (probityref01_Of_sh (0 : Int) (fun (r3_0 : Int) (r3_1 : Int) (w2 : World) => wrOk w2 (Addr.mk w.heap.size 0 none) ∧ 
  (let w4 : World := w2.setCell (Addr.mk w.heap.size 0 none) (Value.int .i64 r3_0)
  wrOk w4 (Addr.mk w.heap.size 1 none) ∧ 
  (let w5 : World := w4.setCell (Addr.mk w.heap.size 1 none) (Value.int .i64 r3_1)
  ∃ x6 : Int, w5.cell? (Addr.mk w.heap.size 0 none) = some (Value.int .i64 x6) ∧ ∃ x7 : Int, w5.cell? (Addr.mk w.heap.size 1 none) = some (Value.int .i64 x7) ∧ K x6 x7 false w5))) w1)
    (probityref01_small_sh num_0 (fun (r9 : Bool) (w8 : World) => cnd r9
    (probityref01_small_sh den_1 (fun (r11 : Bool) (w10 : World) => cnd r11
    (probityref01_quick_sh num_0 den_1 (fun (r13_0 : Int) (r13_1 : Int) (w12 : World) => wrOk w12 (Addr.mk w.heap.size 0 none) ∧ 
  (let w14 : World := w12.setCell (Addr.mk w.heap.size 0 none) (Value.int .i64 r13_0)
  wrOk w14 (Addr.mk w.heap.size 1 none) ∧ 
  (let w15 : World := w14.setCell (Addr.mk w.heap.size 1 none) (Value.int .i64 r13_1)
  ∃ x16 : Int, w15.cell? (Addr.mk w.heap.size 0 none) = some (Value.int .i64 x16) ∧ ∃ x17 : Int, w15.cell? (Addr.mk w.heap.size 1 none) = some (Value.int .i64 x17) ∧ K x16 x17 true w15))) w10)
    (probityref01_Make_k0 num_0 den_1 (Addr.mk w.heap.size 0 none) K w10)) w8)
    (probityref01_Make_k0 num_0 den_1 (Addr.mk w.heap.size 0 none) K w8)) w1)

structure probityref01_Make_sh (num_0 : Int) (den_1 : Int) (K : Int → Int → Bool → World → Prop) (w : World) : Prop where
  out : probityref01_Make_sd num_0 den_1 K w

def probityref01_Make_P0 (Kv : VW) (ρ : Rho) (vs : List Value) (w : World) : Prop :=
  match ρ, vs with
  | _, [.int .i64 num_0, .int .i64 den_1, .pointer (some t_4)] => probityref01_Make_k0 num_0 den_1 t_4  (fun (r0_0 : Int) (r0_1 : Int) (r1 : Bool) (w' : World) => Kv (Value.tuple #[(Value.agg #[(Value.int .i64 r0_0), (Value.int .i64 r0_1)]), (Value.bool r1)]) w') w
  | _, _ => False

noncomputable def probityref01_Make_S : Pw.Spec := fun vs w Kv =>
  match vs with
  | [.int .i64 num_0, .int .i64 den_1] => probityref01_Make_sh num_0 den_1 (fun (r0_0 : Int) (r0_1 : Int) (r1 : Bool) (w' : World) => Kv (Value.tuple #[(Value.agg #[(Value.int .i64 r0_0), (Value.int .i64 r0_1)]), (Value.bool r1)]) w') w
  | _ => False

noncomputable def probityref01_Make_E : Pw.Env := [(24, probityref01_Of_S), (51, probityref01_small_S), (52, probityref01_quick_S), (53, probityref01_lowest_S), (54, probityref01_of_S)]

noncomputable def probityref01_Make_C : Code := (Tryz.f23.body).getD .skip

noncomputable def probityref01_Make_A (Kv : VW) : Pw.A :=
  (A.seq (A.reg (RA.run (RA.run RA.done)))
   (A.seq (A.seq (A.reg (RA.run (RA.run RA.done)))
   (A.cond (A.seq (A.reg (RA.run (RA.run (RA.run RA.done))))
   A.leaf)
   A.leaf))
   (A.seq (A.seq (A.reg (RA.run (RA.run (RA.run (RA.spl 11 (RA.run (RA.run (RA.run RA.done))) (RA.skp (RA.skp (RA.run RA.done))))))))
   (A.cond (A.seq (A.reg (RA.run (RA.run (RA.run (RA.run (RA.run RA.done))))))
   A.leaf)
   A.leaf))
   (A.cut [0, 1, 4] (probityref01_Make_P0 Kv) (A.seq (A.reg (RA.run (RA.run (RA.run (RA.run (RA.run (RA.run (RA.run (RA.run (RA.run RA.done))))))))))
   A.leaf)))))

noncomputable def probityref01_Make_O (Kv : VW) : List Ob := (obs Tryz.prog probityref01_Make_E 25 (probityref01_Make_A Kv) probityref01_Make_C (fun _ => retQ Tryz.prog Tryz.f23.results Kv))

theorem probityref01_Make_e (Kv : VW) (num_0 : Int) (den_1 : Int) (w : World) : probityref01_Make_sd num_0 den_1 (fun (r0_0 : Int) (r0_1 : Int) (r1 : Bool) (w' : World) => Kv (Value.tuple #[(Value.agg #[(Value.int .i64 r0_0), (Value.int .i64 r0_1)]), (Value.bool r1)]) w') w = W Tryz.prog probityref01_Make_E 25 (probityref01_Make_A Kv) probityref01_Make_C [] (retQ Tryz.prog Tryz.f23.results Kv) [] (startS [(Value.int .i64 num_0), (Value.int .i64 den_1)]) w := by kernel_rfl

theorem probityref01_Make_e0 (Kv : VW) (ρ : Rho) (num_0 : Int) (den_1 : Int) (t_4 : Addr) (w : World) : probityref01_Make_k0d num_0 den_1 t_4  (fun (r0_0 : Int) (r0_1 : Int) (r1 : Bool) (w' : World) => Kv (Value.tuple #[(Value.agg #[(Value.int .i64 r0_0), (Value.int .i64 r0_1)]), (Value.bool r1)]) w') w = goalAt Tryz.prog probityref01_Make_E 25 (probityref01_Make_O Kv) 0 (ρ) [(Value.int .i64 num_0), (Value.int .i64 den_1), (Value.pointer (some t_4))] w := by kernel_rfl

theorem probityref01_Make_q0 (Kv : VW) (ρ : Rho) (vs : List Value) (w : World) : labAt (probityref01_Make_O Kv) 0 ρ vs w = probityref01_Make_P0 Kv ρ vs w := by kernel_rfl

theorem probityref01_Make_h0 (Kv : VW) : holdsAt Tryz.prog probityref01_Make_E 25 (probityref01_Make_O Kv) 0 := holdsAt_cut (.inl (by kernel_rfl)) (fun ρ vs w h => by
  rw [probityref01_Make_q0] at h
  unfold probityref01_Make_P0 at h
  split at h
  · rw [← probityref01_Make_e0]; exact h.out
  · exact h.elim)

theorem probityref01_Make_n (Kv : VW) : obAt (probityref01_Make_O Kv) 1 = none := by kernel_rfl

theorem probityref01_Make_h (Kv : VW) : ∀ k, holdsAt Tryz.prog probityref01_Make_E 25 (probityref01_Make_O Kv) k := fun k => match k with
  | 0 => probityref01_Make_h0 Kv
  | _k + 1 => holdsAt_ge (probityref01_Make_n Kv) (Nat.le_add_left _ _)

theorem probityref01_Make_ok : Sound Tryz.prog 23 probityref01_Make_S := ⟨Tryz.call23, fun vs w Kv h => by
  unfold probityref01_Make_S at h
  split at h
  · have h := h.out
    rw [probityref01_Make_e] at h
    exact calls_sound (Γ := probityref01_Make_E) progMixed ⟨.inl probityref01_Of_ok, .inl probityref01_small_ok, .inl probityref01_quick_ok, .inl probityref01_lowest_ok, .inl probityref01_of_ok, trivial⟩ Tryz.func23 (code := probityref01_Make_C) (by kernel_rfl) (probityref01_Make_A Kv) Kv (holds_all (probityref01_Make_h Kv)) (Nat.le_of_ble_eq_true (by kernel_rfl)) h
  · exact h.elim⟩

/-! probityref01_Mod -/
def probityref01_Mod_sd (n_0 : Int) (m_1 : Int) (K : Int → World → Prop) (w : World) : Prop :=
  m_1 ≠ 0 ∧ inR .i64 ((Int.tmod n_0 m_1) + m_1) ∧ m_1 ≠ 0 ∧ K (Int.tmod ((Int.tmod n_0 m_1) + m_1) m_1) w

structure probityref01_Mod_sh (n_0 : Int) (m_1 : Int) (K : Int → World → Prop) (w : World) : Prop where
  out : probityref01_Mod_sd n_0 m_1 K w

noncomputable def probityref01_Mod_S : Pw.Spec := fun vs w Kv =>
  match vs with
  | [.int .i64 n_0, .int .i64 m_1] => probityref01_Mod_sh n_0 m_1 (fun (r0 : Int) (w' : World) => Kv (Value.int .i64 r0) w') w
  | _ => False

noncomputable def probityref01_Mod_E : Pw.Env := []

noncomputable def probityref01_Mod_C : Code := (Tryz.f10.body).getD .skip

noncomputable def probityref01_Mod_A (_Kv : VW) : Pw.A :=
  (A.seq (A.reg (RA.run RA.done))
   (A.seq (A.reg (RA.run (RA.run (RA.run (RA.run (RA.run (RA.run (RA.run (RA.run RA.done)))))))))
   A.leaf))

noncomputable def probityref01_Mod_O (Kv : VW) : List Ob := (obs Tryz.prog probityref01_Mod_E 12 (probityref01_Mod_A Kv) probityref01_Mod_C (fun _ => retQ Tryz.prog Tryz.f10.results Kv))

theorem probityref01_Mod_e (Kv : VW) (n_0 : Int) (m_1 : Int) (w : World) : probityref01_Mod_sd n_0 m_1 (fun (r0 : Int) (w' : World) => Kv (Value.int .i64 r0) w') w = W Tryz.prog probityref01_Mod_E 12 (probityref01_Mod_A Kv) probityref01_Mod_C [] (retQ Tryz.prog Tryz.f10.results Kv) [] (startS [(Value.int .i64 n_0), (Value.int .i64 m_1)]) w := by kernel_rfl

theorem probityref01_Mod_n (Kv : VW) : obAt (probityref01_Mod_O Kv) 0 = none := by kernel_rfl

theorem probityref01_Mod_h (Kv : VW) : ∀ k, holdsAt Tryz.prog probityref01_Mod_E 12 (probityref01_Mod_O Kv) k := fun _ => holdsAt_ge (probityref01_Mod_n Kv) (Nat.zero_le _)

theorem probityref01_Mod_ok : Sound Tryz.prog 10 probityref01_Mod_S := ⟨Tryz.call10, fun vs w Kv h => by
  unfold probityref01_Mod_S at h
  split at h
  · have h := h.out
    rw [probityref01_Mod_e] at h
    exact calls_sound (Γ := probityref01_Mod_E) progMixed trivial Tryz.func10 (code := probityref01_Mod_C) (by kernel_rfl) (probityref01_Mod_A Kv) Kv (holds_all (probityref01_Mod_h Kv)) (Nat.le_of_ble_eq_true (by kernel_rfl)) h
  · exact h.elim⟩

/-! probityref01_Made -/
def probityref01_Made_k0d (t_2 : Addr) (n_3 : Int) (d_4 : Int)  (K : Int → Int → World → Prop) (w : World) : Prop :=
  probityref01_Make_sh n_3 d_4 (fun (r28_0 : Int) (r28_1 : Int) (r29 : Bool) (w27 : World) => let w30 : World := w27.alloc (Obj.cells #[(Value.int .i64 (0 : Int)), (Value.int .i64 (0 : Int))] 26)
  wrOk w30 (Addr.mk w27.heap.size 0 none) ∧ 
  (let w31 : World := w30.setCell (Addr.mk w27.heap.size 0 none) (Value.int .i64 r28_0)
  wrOk w31 (Addr.mk w27.heap.size 1 none) ∧ 
  (let w32 : World := w31.setCell (Addr.mk w27.heap.size 1 none) (Value.int .i64 r28_1)
  cnd (!r29)
    ((1000 : Int) ≠ 0 ∧ probityref01_Of_sh (Int.tmod n_3 (1000 : Int)) (fun (r34_0 : Int) (r34_1 : Int) (w33 : World) => wrOk w33 t_2 ∧ 
  (let w35 : World := w33.setCell t_2 (Value.int .i64 r34_0)
  wrOk w35 (t_2.add 1) ∧ 
  (let w36 : World := w35.setCell (t_2.add 1) (Value.int .i64 r34_1)
  ∃ x37 : Int, w36.cell? t_2 = some (Value.int .i64 x37) ∧ ∃ x38 : Int, w36.cell? (t_2.add 1) = some (Value.int .i64 x38) ∧ K x37 x38 w36))) w32)
    (∃ x39 : Int, w32.cell? (Addr.mk w27.heap.size 0 none) = some (Value.int .i64 x39) ∧ ∃ x40 : Int, w32.cell? (Addr.mk w27.heap.size 1 none) = some (Value.int .i64 x40) ∧ wrOk w32 t_2 ∧ 
  (let w41 : World := w32.setCell t_2 (Value.int .i64 x39)
  wrOk w41 (t_2.add 1) ∧ 
  (let w42 : World := w41.setCell (t_2.add 1) (Value.int .i64 x40)
  ∃ x43 : Int, w42.cell? t_2 = some (Value.int .i64 x43) ∧ ∃ x44 : Int, w42.cell? (t_2.add 1) = some (Value.int .i64 x44) ∧ K x43 x44 w42)))))) w
structure probityref01_Made_k0 (t_2 : Addr) (n_3 : Int) (d_4 : Int)  (K : Int → Int → World → Prop) (w : World) : Prop where
  out : probityref01_Made_k0d t_2 n_3 d_4 K w

def probityref01_Made_sd (q_0_0 : Int) (q_0_1 : Int) (q_0_2 : Int) (K : Int → Int → World → Prop) (w : World) : Prop :=
  let w1 : World := w.alloc (Obj.cells #[(Value.int .i64 q_0_0), (Value.int .i64 q_0_1), (Value.int .i64 q_0_2)] 22)
  let w2 : World := w1.alloc (Obj.cells #[(Value.int .i64 (0 : Int)), (Value.int .i64 (0 : Int))] 26)
  (0 ≤ (0 : Int) ∧ (0 : Int) < (3 : Nat)) ∧ ∃ x3 : Int, w2.cell? ((Addr.mk w.heap.size 0 none).add ((0 : Int).toNat * 1)) = some (Value.int .i64 x3) ∧ (0 ≤ (1 : Int) ∧ (1 : Int) < (3 : Nat)) ∧ ∃ x4 : Int, w2.cell? ((Addr.mk w.heap.size 0 none).add ((1 : Int).toNat * 1)) = some (Value.int .i64 x4) ∧ (0 ≤ (2 : Int) ∧ (2 : Int) < (3 : Nat)) ∧ ∃ x5 : Int, w2.cell? ((Addr.mk w.heap.size 0 none).add ((2 : Int).toNat * 1)) = some (Value.int .i64 x5) ∧ probityref01_Mod_sh x5 (6 : Int) (fun (r7 : Int) (w6 : World) => cnd (r7 == (0 : Int))
    ((0 ≤ (0 : Int) ∧ (0 : Int) < (3 : Nat)) ∧ ∃ x8 : Int, w6.cell? ((Addr.mk w.heap.size 0 none).add ((0 : Int).toNat * 1)) = some (Value.int .i64 x8) ∧ (20 : Int) ≠ 0 ∧ (0 ≤ (1 : Int) ∧ (1 : Int) < (3 : Nat)) ∧ ∃ x9 : Int, w6.cell? ((Addr.mk w.heap.size 0 none).add ((1 : Int).toNat * 1)) = some (Value.int .i64 x9) ∧ probityref01_Mod_sh x9 (12 : Int) (fun (r11 : Int) (w10 : World) => inR .i64 ((1 : Int) + r11) ∧ probityref01_Made_k0 (Addr.mk w1.heap.size 0 none) (Int.tmod x8 (20 : Int)) ((1 : Int) + r11) K w10) w6)
    (cnd (r7 == (1 : Int))
    ((0 ≤ (0 : Int) ∧ (0 : Int) < (3 : Nat)) ∧ ∃ x12 : Int, w6.cell? ((Addr.mk w.heap.size 0 none).add ((0 : Int).toNat * 1)) = some (Value.int .i64 x12) ∧ (1000000 : Int) ≠ 0 ∧ (0 ≤ (1 : Int) ∧ (1 : Int) < (3 : Nat)) ∧ ∃ x13 : Int, w6.cell? ((Addr.mk w.heap.size 0 none).add ((1 : Int).toNat * 1)) = some (Value.int .i64 x13) ∧ probityref01_Mod_sh x13 (1000 : Int) (fun (r15 : Int) (w14 : World) => inR .i64 ((1 : Int) + r15) ∧ probityref01_Made_k0 (Addr.mk w1.heap.size 0 none) (Int.tmod x12 (1000000 : Int)) ((1 : Int) + r15) K w14) w6)
    (cnd (r7 == (2 : Int))
    (probityref01_Made_k0 (Addr.mk w1.heap.size 0 none) x3 (1 : Int) K w6)
    (cnd (r7 == (3 : Int))
    ((0 ≤ (0 : Int) ∧ (0 : Int) < (3 : Nat)) ∧ ∃ x16 : Int, w6.cell? ((Addr.mk w.heap.size 0 none).add ((0 : Int).toNat * 1)) = some (Value.int .i64 x16) ∧ (100 : Int) ≠ 0 ∧ inR .i64 ((4611686018427387904 : Int) + (Int.tmod x16 (100 : Int))) ∧ (0 ≤ (1 : Int) ∧ (1 : Int) < (3 : Nat)) ∧ ∃ x17 : Int, w6.cell? ((Addr.mk w.heap.size 0 none).add ((1 : Int).toNat * 1)) = some (Value.int .i64 x17) ∧ probityref01_Mod_sh x17 (100 : Int) (fun (r19 : Int) (w18 : World) => inR .i64 ((1 : Int) + r19) ∧ probityref01_Made_k0 (Addr.mk w1.heap.size 0 none) ((4611686018427387904 : Int) + (Int.tmod x16 (100 : Int))) ((1 : Int) + r19) K w18) w6)
    (cnd (r7 == (4 : Int))
    ((0 ≤ (1 : Int) ∧ (1 : Int) < (3 : Nat)) ∧ ∃ x20 : Int, w6.cell? ((Addr.mk w.heap.size 0 none).add ((1 : Int).toNat * 1)) = some (Value.int .i64 x20) ∧ probityref01_Mod_sh x20 (100 : Int) (fun (r22 : Int) (w21 : World) => inR .i64 ((2 : Int) * r22) ∧ inR .i64 ((1 : Int) + ((2 : Int) * r22)) ∧ probityref01_Made_k0 (Addr.mk w1.heap.size 0 none) (-9223372036854775808 : Int) ((1 : Int) + ((2 : Int) * r22)) K w21) w6)
    (cnd (r7 == (5 : Int))
    ((0 ≤ (0 : Int) ∧ (0 : Int) < (3 : Nat)) ∧ ∃ x23 : Int, w6.cell? ((Addr.mk w.heap.size 0 none).add ((0 : Int).toNat * 1)) = some (Value.int .i64 x23) ∧ (100 : Int) ≠ 0 ∧ (0 ≤ (1 : Int) ∧ (1 : Int) < (3 : Nat)) ∧ ∃ x24 : Int, w6.cell? ((Addr.mk w.heap.size 0 none).add ((1 : Int).toNat * 1)) = some (Value.int .i64 x24) ∧ probityref01_Mod_sh x24 (100 : Int) (fun (r26 : Int) (w25 : World) => inR .i64 ((4611686018427387904 : Int) + r26) ∧ probityref01_Made_k0 (Addr.mk w1.heap.size 0 none) (Int.tmod x23 (100 : Int)) ((4611686018427387904 : Int) + r26) K w25) w6)
    (probityref01_Made_k0 (Addr.mk w1.heap.size 0 none) x3 x4 K w6))))))) w2

structure probityref01_Made_sh (q_0_0 : Int) (q_0_1 : Int) (q_0_2 : Int) (K : Int → Int → World → Prop) (w : World) : Prop where
  out : probityref01_Made_sd q_0_0 q_0_1 q_0_2 K w

def probityref01_Made_P0 (Kv : VW) (ρ : Rho) (vs : List Value) (w : World) : Prop :=
  match ρ, vs with
  | _, [.pointer (some t_2), .int .i64 n_3, .int .i64 d_4] => probityref01_Made_k0 t_2 n_3 d_4  (fun (r0_0 : Int) (r0_1 : Int) (w' : World) => Kv (Value.agg #[(Value.int .i64 r0_0), (Value.int .i64 r0_1)]) w') w
  | _, _ => False

noncomputable def probityref01_Made_S : Pw.Spec := fun vs w Kv =>
  match vs with
  | [.agg ⟨[.int .i64 q_0_0, .int .i64 q_0_1, .int .i64 q_0_2]⟩] => probityref01_Made_sh q_0_0 q_0_1 q_0_2 (fun (r0_0 : Int) (r0_1 : Int) (w' : World) => Kv (Value.agg #[(Value.int .i64 r0_0), (Value.int .i64 r0_1)]) w') w
  | _ => False

noncomputable def probityref01_Made_E : Pw.Env := [(10, probityref01_Mod_S), (23, probityref01_Make_S), (24, probityref01_Of_S)]

noncomputable def probityref01_Made_C : Code := (Tryz.f7.body).getD .skip

noncomputable def probityref01_Made_A (Kv : VW) : Pw.A :=
  (A.seq (A.reg (RA.run (RA.run RA.done)))
   (A.seq (A.reg (RA.run (RA.run (RA.run RA.done))))
   (A.seq (A.reg (RA.run (RA.run (RA.run RA.done))))
   (A.seq (A.seq (A.reg (RA.run (RA.run (RA.run RA.done))))
   (A.blk (A.seq (A.reg (RA.run (RA.run RA.done)))
   (A.cond (A.seq (A.reg (RA.run (RA.run (RA.run (RA.run RA.done)))))
   (A.reg (RA.run (RA.run (RA.run (RA.run (RA.run RA.done)))))))
   (A.seq (A.reg (RA.run (RA.run RA.done)))
   (A.cond (A.seq (A.reg (RA.run (RA.run (RA.run (RA.run RA.done)))))
   (A.reg (RA.run (RA.run (RA.run (RA.run (RA.run RA.done)))))))
   (A.seq (A.reg (RA.run (RA.run RA.done)))
   (A.cond (A.reg (RA.run RA.done))
   (A.seq (A.reg (RA.run (RA.run RA.done)))
   (A.cond (A.seq (A.reg (RA.run (RA.run (RA.run (RA.run (RA.run RA.done))))))
   (A.reg (RA.run (RA.run (RA.run (RA.run (RA.run RA.done)))))))
   (A.seq (A.reg (RA.run (RA.run RA.done)))
   (A.cond (A.seq (A.reg (RA.run RA.done))
   (A.reg (RA.run (RA.run (RA.run (RA.run (RA.run (RA.run RA.done))))))))
   (A.seq (A.reg (RA.run (RA.run RA.done)))
   (A.cond (A.seq (A.reg (RA.run (RA.run (RA.run (RA.run RA.done)))))
   (A.reg (RA.run (RA.run (RA.run (RA.run (RA.run RA.done)))))))
   A.leaf))))))))))))))
   (A.cut [2, 3, 4] (probityref01_Made_P0 Kv) (A.seq (A.reg (RA.run (RA.run (RA.run (RA.run (RA.run (RA.run (RA.run (RA.run (RA.run RA.done))))))))))
   (A.seq (A.seq (A.reg (RA.run (RA.run RA.done)))
   (A.cond (A.seq (A.reg (RA.run (RA.run (RA.run (RA.run RA.done)))))
   A.leaf)
   A.leaf))
   (A.seq (A.reg (RA.run (RA.run RA.done)))
   A.leaf))))))))

noncomputable def probityref01_Made_O (Kv : VW) : List Ob := (obs Tryz.prog probityref01_Made_E 72 (probityref01_Made_A Kv) probityref01_Made_C (fun _ => retQ Tryz.prog Tryz.f7.results Kv))

theorem probityref01_Made_e (Kv : VW) (q_0_0 : Int) (q_0_1 : Int) (q_0_2 : Int) (w : World) : probityref01_Made_sd q_0_0 q_0_1 q_0_2 (fun (r0_0 : Int) (r0_1 : Int) (w' : World) => Kv (Value.agg #[(Value.int .i64 r0_0), (Value.int .i64 r0_1)]) w') w = W Tryz.prog probityref01_Made_E 72 (probityref01_Made_A Kv) probityref01_Made_C [] (retQ Tryz.prog Tryz.f7.results Kv) [] (startS [(Value.agg #[(Value.int .i64 q_0_0), (Value.int .i64 q_0_1), (Value.int .i64 q_0_2)])]) w := by kernel_rfl

theorem probityref01_Made_e0 (Kv : VW) (ρ : Rho) (t_2 : Addr) (n_3 : Int) (d_4 : Int) (w : World) : probityref01_Made_k0d t_2 n_3 d_4  (fun (r0_0 : Int) (r0_1 : Int) (w' : World) => Kv (Value.agg #[(Value.int .i64 r0_0), (Value.int .i64 r0_1)]) w') w = goalAt Tryz.prog probityref01_Made_E 72 (probityref01_Made_O Kv) 0 (ρ) [(Value.pointer (some t_2)), (Value.int .i64 n_3), (Value.int .i64 d_4)] w := by kernel_rfl

theorem probityref01_Made_q0 (Kv : VW) (ρ : Rho) (vs : List Value) (w : World) : labAt (probityref01_Made_O Kv) 0 ρ vs w = probityref01_Made_P0 Kv ρ vs w := by kernel_rfl

theorem probityref01_Made_h0 (Kv : VW) : holdsAt Tryz.prog probityref01_Made_E 72 (probityref01_Made_O Kv) 0 := holdsAt_cut (.inl (by kernel_rfl)) (fun ρ vs w h => by
  rw [probityref01_Made_q0] at h
  unfold probityref01_Made_P0 at h
  split at h
  · rw [← probityref01_Made_e0]; exact h.out
  · exact h.elim)

theorem probityref01_Made_n (Kv : VW) : obAt (probityref01_Made_O Kv) 1 = none := by kernel_rfl

theorem probityref01_Made_h (Kv : VW) : ∀ k, holdsAt Tryz.prog probityref01_Made_E 72 (probityref01_Made_O Kv) k := fun k => match k with
  | 0 => probityref01_Made_h0 Kv
  | _k + 1 => holdsAt_ge (probityref01_Made_n Kv) (Nat.le_add_left _ _)

theorem probityref01_Made_ok : Sound Tryz.prog 7 probityref01_Made_S := ⟨Tryz.call7, fun vs w Kv h => by
  unfold probityref01_Made_S at h
  split at h
  · have h := h.out
    rw [probityref01_Made_e] at h
    exact calls_sound (Γ := probityref01_Made_E) progMixed ⟨.inl probityref01_Mod_ok, .inl probityref01_Make_ok, .inl probityref01_Of_ok, trivial⟩ Tryz.func7 (code := probityref01_Made_C) (by kernel_rfl) (probityref01_Made_A Kv) Kv (holds_all (probityref01_Made_h Kv)) (Nat.le_of_ble_eq_true (by kernel_rfl)) h
  · exact h.elim⟩

end Go.Proofs.YtfclokkfnkieoaaGreatDoor
