/- The bodies' formulas, by program. -/
import Derived.Test.YtfclokkfnkieoaaGreatDoorProg
import Derived.KernelRfl
import Derived.Test.YtfclokkfnkieoaaGreatDoorPwX
import Derived.Test.YtfclokkfnkieoaaGreatDoorRG0
import Derived.Test.YtfclokkfnkieoaaGreatDoorRG1
import Derived.Test.YtfclokkfnkieoaaGreatDoorRG2
set_option maxRecDepth 20000
namespace Go.Proofs.YtfclokkfnkieoaaGreatDoor
open Go Pw
/-! probityref01_plus -/
def probityref01_plus_k3d (a_0 : Sl) (b_1 : Sl) (out_5 : Sl) (i_7 : Int) (d_8 : Int) (N0 : Sl → Sl → Sl → Int → Int → World → Prop) (_K : Sl → World → Prop) (w : World) : Prop :=
  (65536 : Int) ≠ 0 ∧ let w5 : World := w.alloc (Obj.cells #[(Value.int .i64 (Int.tmod d_8 (65536 : Int)))] 3)
  apS 1 8 [(Value.int .i64 (0 : Int))] 3 out_5 (Sl.mk (some (Addr.mk w.heap.size 0 none)) 1 1) w5 fun (s6 : Sl) (w7 : World) => (65536 : Int) ≠ 0 ∧ inR .i64 (Int.tdiv d_8 (65536 : Int)) ∧ inR .i64 (i_7 + (1 : Int)) ∧ N0 a_0 b_1 s6 (Int.tdiv d_8 (65536 : Int)) (i_7 + (1 : Int)) w7
structure probityref01_plus_k3 (a_0 : Sl) (b_1 : Sl) (out_5 : Sl) (i_7 : Int) (d_8 : Int) (N0 : Sl → Sl → Sl → Int → Int → World → Prop) (K : Sl → World → Prop) (w : World) : Prop where
  out : probityref01_plus_k3d a_0 b_1 out_5 i_7 d_8 N0 K w

def probityref01_plus_k2d (a_0 : Sl) (b_1 : Sl) (out_5 : Sl) (i_7 : Int) (d_8 : Int) (N0 : Sl → Sl → Sl → Int → Int → World → Prop) (K : Sl → World → Prop) (w : World) : Prop :=
  cnd (decide (i_7 < (b_1.l : Int)))
    (nz b_1.p fun a3 => (0 ≤ i_7 ∧ i_7 < (b_1.l : Nat)) ∧ ∃ x4 : Int, w.cell? (a3.add (i_7.toNat * 1)) = some (Value.int .i64 x4) ∧ inR .i64 (d_8 + x4) ∧ probityref01_plus_k3 a_0 b_1 out_5 i_7 (d_8 + x4) N0 K w)
    (probityref01_plus_k3 a_0 b_1 out_5 i_7 d_8 N0 K w)
structure probityref01_plus_k2 (a_0 : Sl) (b_1 : Sl) (out_5 : Sl) (i_7 : Int) (d_8 : Int) (N0 : Sl → Sl → Sl → Int → Int → World → Prop) (K : Sl → World → Prop) (w : World) : Prop where
  out : probityref01_plus_k2d a_0 b_1 out_5 i_7 d_8 N0 K w

def probityref01_plus_k1d (a_0 : Sl) (b_1 : Sl) (out_5 : Sl) (carry_6 : Int) (i_7 : Int) (N0 : Sl → Sl → Sl → Int → Int → World → Prop) (K : Sl → World → Prop) (w : World) : Prop :=
  cnd (decide (i_7 < (a_0.l : Int)))
    (nz a_0.p fun a1 => (0 ≤ i_7 ∧ i_7 < (a_0.l : Nat)) ∧ ∃ x2 : Int, w.cell? (a1.add (i_7.toNat * 1)) = some (Value.int .i64 x2) ∧ inR .i64 (carry_6 + x2) ∧ probityref01_plus_k2 a_0 b_1 out_5 i_7 (carry_6 + x2) N0 K w)
    (probityref01_plus_k2 a_0 b_1 out_5 i_7 carry_6 N0 K w)
structure probityref01_plus_k1 (a_0 : Sl) (b_1 : Sl) (out_5 : Sl) (carry_6 : Int) (i_7 : Int) (N0 : Sl → Sl → Sl → Int → Int → World → Prop) (K : Sl → World → Prop) (w : World) : Prop where
  out : probityref01_plus_k1d a_0 b_1 out_5 carry_6 i_7 N0 K w

def probityref01_plus_b0 (a_0 : Sl) (b_1 : Sl) (out_5 : Sl) (carry_6 : Int) (i_7 : Int) (N0 : Sl → Sl → Sl → Int → Int → World → Prop)  (K : Sl → World → Prop) (w : World) : Prop :=
  cnd (decide (i_7 < (a_0.l : Int)))
    (probityref01_plus_k1 a_0 b_1 out_5 carry_6 i_7 N0 K w)
    (cnd (decide (i_7 < (b_1.l : Int)))
    (probityref01_plus_k1 a_0 b_1 out_5 carry_6 i_7 N0 K w)
    (cnd (decide (carry_6 > (0 : Int)))
    (probityref01_plus_k1 a_0 b_1 out_5 carry_6 i_7 N0 K w)
    (K out_5 w)))
def probityref01_plus_l0d (a_0 : Sl) (b_1 : Sl) (out_5 : Sl) (carry_6 : Int) (i_7 : Int)  (K : Sl → World → Prop) (w : World) : Prop :=
  ∃ (I : Sl → Int → Int → World → Prop) (μ : Sl → Int → Int → World → Nat), I out_5 carry_6 i_7 w ∧ ∀ (out_51 : Sl) (carry_61 : Int) (i_71 : Int) (w1 : World), I out_51 carry_61 i_71 w1 →
    probityref01_plus_b0 a_0 b_1 out_51 carry_61 i_71 (fun (a_0' : Sl) (b_1' : Sl) (out_5' : Sl) (carry_6' : Int) (i_7' : Int) (w' : World) => ((a_0' = a_0 ∧ b_1' = b_1 ∧ True) ∧ I out_5' carry_6' i_7' w') ∧ μ out_5' carry_6' i_7' w' < μ out_51 carry_61 i_71 w1)  K w1
structure probityref01_plus_l0 (a_0 : Sl) (b_1 : Sl) (out_5 : Sl) (carry_6 : Int) (i_7 : Int)  (K : Sl → World → Prop) (w : World) : Prop where
  out : probityref01_plus_l0d a_0 b_1 out_5 carry_6 i_7 K w

def probityref01_plus_sd (a_0 : Sl) (b_1 : Sl) (K : Sl → World → Prop) (w : World) : Prop :=
  probityref01_plus_l0 a_0 b_1 (Sl.mk none 0 0) (0 : Int) (0 : Int) K w

structure probityref01_plus_sh (a_0 : Sl) (b_1 : Sl) (K : Sl → World → Prop) (w : World) : Prop where
  out : probityref01_plus_sd a_0 b_1 K w

def probityref01_plus_P0 (Kv : VW) (ρ : Rho) (vs : List Value) (w : World) : Prop :=
  match ρ, vs with
  | _, [.slice a_0p a_0l a_0c, .slice b_1p b_1l b_1c, .slice out_5p out_5l out_5c, .int .i64 carry_6, .int .i64 i_7] => probityref01_plus_l0 ⟨a_0p, a_0l, a_0c⟩ ⟨b_1p, b_1l, b_1c⟩ ⟨out_5p, out_5l, out_5c⟩ carry_6 i_7  (fun (r0 : Sl) (w' : World) => Kv (Value.slice r0.p r0.l r0.c) w') w
  | _, _ => False

def probityref01_plus_P1 (Kv : VW) (ρ : Rho) (vs : List Value) (w : World) : Prop :=
  match ρ, vs with
  | N0 :: _, [.slice a_0p a_0l a_0c, .slice b_1p b_1l b_1c, .slice out_5p out_5l out_5c, .int .i64 carry_6, .int .i64 i_7] => probityref01_plus_k1 ⟨a_0p, a_0l, a_0c⟩ ⟨b_1p, b_1l, b_1c⟩ ⟨out_5p, out_5l, out_5c⟩ carry_6 i_7 (fun (a_0' : Sl) (b_1' : Sl) (out_5' : Sl) (carry_6' : Int) (i_7' : Int) (w' : World) => N0 [(Value.slice a_0'.p a_0'.l a_0'.c), (Value.slice b_1'.p b_1'.l b_1'.c), (Value.slice out_5'.p out_5'.l out_5'.c), (Value.int .i64 carry_6'), (Value.int .i64 i_7')] w') (fun (r0 : Sl) (w' : World) => Kv (Value.slice r0.p r0.l r0.c) w') w
  | _, _ => False

def probityref01_plus_P2 (Kv : VW) (ρ : Rho) (vs : List Value) (w : World) : Prop :=
  match ρ, vs with
  | N0 :: _, [.slice a_0p a_0l a_0c, .slice b_1p b_1l b_1c, .slice out_5p out_5l out_5c, .int .i64 i_7, .int .i64 d_8] => probityref01_plus_k2 ⟨a_0p, a_0l, a_0c⟩ ⟨b_1p, b_1l, b_1c⟩ ⟨out_5p, out_5l, out_5c⟩ i_7 d_8 (fun (a_0' : Sl) (b_1' : Sl) (out_5' : Sl) (carry_6' : Int) (i_7' : Int) (w' : World) => N0 [(Value.slice a_0'.p a_0'.l a_0'.c), (Value.slice b_1'.p b_1'.l b_1'.c), (Value.slice out_5'.p out_5'.l out_5'.c), (Value.int .i64 carry_6'), (Value.int .i64 i_7')] w') (fun (r0 : Sl) (w' : World) => Kv (Value.slice r0.p r0.l r0.c) w') w
  | _, _ => False

def probityref01_plus_P3 (Kv : VW) (ρ : Rho) (vs : List Value) (w : World) : Prop :=
  match ρ, vs with
  | N0 :: _, [.slice a_0p a_0l a_0c, .slice b_1p b_1l b_1c, .slice out_5p out_5l out_5c, .int .i64 i_7, .int .i64 d_8] => probityref01_plus_k3 ⟨a_0p, a_0l, a_0c⟩ ⟨b_1p, b_1l, b_1c⟩ ⟨out_5p, out_5l, out_5c⟩ i_7 d_8 (fun (a_0' : Sl) (b_1' : Sl) (out_5' : Sl) (carry_6' : Int) (i_7' : Int) (w' : World) => N0 [(Value.slice a_0'.p a_0'.l a_0'.c), (Value.slice b_1'.p b_1'.l b_1'.c), (Value.slice out_5'.p out_5'.l out_5'.c), (Value.int .i64 carry_6'), (Value.int .i64 i_7')] w') (fun (r0 : Sl) (w' : World) => Kv (Value.slice r0.p r0.l r0.c) w') w
  | _, _ => False

noncomputable def probityref01_plus_S : Pw.Spec := fun vs w Kv =>
  match vs with
  | [.slice a_0p a_0l a_0c, .slice b_1p b_1l b_1c] => probityref01_plus_sh ⟨a_0p, a_0l, a_0c⟩ ⟨b_1p, b_1l, b_1c⟩ (fun (r0 : Sl) (w' : World) => Kv (Value.slice r0.p r0.l r0.c) w') w
  | _ => False

noncomputable def probityref01_plus_E : Pw.Env := []

noncomputable def probityref01_plus_C : Code := (Tryz.f85.body).getD .skip

noncomputable def probityref01_plus_A (Kv : VW) : Pw.A :=
  (A.seq (A.reg (RA.run RA.done))
   (A.seq (A.reg (RA.run RA.done))
   (A.seq (A.reg (RA.run RA.done))
   (A.seq (A.seq (A.reg (RA.run RA.done))
   (A.blk (A.loop [0, 1, 5, 6, 7] (probityref01_plus_P0 Kv) (A.seq (A.seq (A.reg (RA.run (RA.run (RA.run (RA.run (RA.run (RA.spl 13 (RA.skp (RA.skp (RA.skp (RA.skp (RA.run (RA.run (RA.skp (RA.skp (RA.run RA.done))))))))) (RA.run (RA.run (RA.run (RA.run (RA.run (RA.run (RA.spl 19 (RA.skp (RA.skp (RA.run RA.done))) (RA.run (RA.run (RA.run RA.done)))))))))))))))))
   (A.cond A.leaf
   A.leaf))
   (A.cut [0, 1, 5, 6, 7] (probityref01_plus_P1 Kv) (A.seq (A.blk (A.seq (A.reg (RA.run (RA.run RA.done)))
   (A.seq (A.seq (A.reg (RA.run (RA.run (RA.run (RA.run RA.done)))))
   (A.cond (A.reg (RA.run (RA.run (RA.run (RA.run (RA.run (RA.run (RA.run RA.done))))))))
   A.leaf))
   (A.cut [0, 1, 5, 7, 8] (probityref01_plus_P2 Kv) (A.seq (A.seq (A.reg (RA.run (RA.run (RA.run (RA.run RA.done)))))
   (A.cond (A.reg (RA.run (RA.run (RA.run (RA.run (RA.run (RA.run (RA.run RA.done))))))))
   A.leaf))
   (A.cut [0, 1, 5, 7, 8] (probityref01_plus_P3 Kv) (A.seq (A.reg (RA.run (RA.run (RA.run (RA.run (RA.run (RA.run RA.done)))))))
   (A.reg (RA.run (RA.run (RA.run RA.done)))))))))))
   (A.reg (RA.run (RA.run (RA.run RA.done))))))))))
   (A.seq (A.reg (RA.run (RA.run RA.done)))
   A.leaf)))))

noncomputable def probityref01_plus_O (Kv : VW) : List Ob := (obs Tryz.prog probityref01_plus_E 54 (probityref01_plus_A Kv) probityref01_plus_C (fun _ => retQ Tryz.prog Tryz.f85.results Kv))

theorem probityref01_plus_e (Kv : VW) (a_0p : Option Addr) (a_0l a_0c : Nat) (b_1p : Option Addr) (b_1l b_1c : Nat) (w : World) : probityref01_plus_sd ⟨a_0p, a_0l, a_0c⟩ ⟨b_1p, b_1l, b_1c⟩ (fun (r0 : Sl) (w' : World) => Kv (Value.slice r0.p r0.l r0.c) w') w = W Tryz.prog probityref01_plus_E 54 (probityref01_plus_A Kv) probityref01_plus_C [] (retQ Tryz.prog Tryz.f85.results Kv) [] (startS [(Value.slice a_0p a_0l a_0c), (Value.slice b_1p b_1l b_1c)]) w := by kernel_rfl

theorem probityref01_plus_e0 (Kv : VW) (N0 : List Value → World → Prop) (ρ : Rho) (a_0p : Option Addr) (a_0l a_0c : Nat) (b_1p : Option Addr) (b_1l b_1c : Nat) (out_5p : Option Addr) (out_5l out_5c : Nat) (carry_6 : Int) (i_7 : Int) (w : World) : probityref01_plus_b0 ⟨a_0p, a_0l, a_0c⟩ ⟨b_1p, b_1l, b_1c⟩ ⟨out_5p, out_5l, out_5c⟩ carry_6 i_7 (fun (a_0' : Sl) (b_1' : Sl) (out_5' : Sl) (carry_6' : Int) (i_7' : Int) (w' : World) => N0 [(Value.slice a_0'.p a_0'.l a_0'.c), (Value.slice b_1'.p b_1'.l b_1'.c), (Value.slice out_5'.p out_5'.l out_5'.c), (Value.int .i64 carry_6'), (Value.int .i64 i_7')] w')  (fun (r0 : Sl) (w' : World) => Kv (Value.slice r0.p r0.l r0.c) w') w = goalAt Tryz.prog probityref01_plus_E 54 (probityref01_plus_O Kv) 0 (N0 :: ρ) [(Value.slice a_0p a_0l a_0c), (Value.slice b_1p b_1l b_1c), (Value.slice out_5p out_5l out_5c), (Value.int .i64 carry_6), (Value.int .i64 i_7)] w := by kernel_rfl

theorem probityref01_plus_q0 (Kv : VW) (ρ : Rho) (vs : List Value) (w : World) : labAt (probityref01_plus_O Kv) 0 ρ vs w = probityref01_plus_P0 Kv ρ vs w := by kernel_rfl

def probityref01_plus_I0 (a_00 : Sl) (b_10 : Sl) (I : Sl → Int → Int → World → Prop) (vs : List Value) (w : World) : Prop :=
  match vs with
  | [.slice a_0p a_0l a_0c, .slice b_1p b_1l b_1c, .slice out_5p out_5l out_5c, .int .i64 carry_6, .int .i64 i_7] => (⟨a_0p, a_0l, a_0c⟩ = a_00 ∧ ⟨b_1p, b_1l, b_1c⟩ = b_10 ∧ True) ∧ I ⟨out_5p, out_5l, out_5c⟩ carry_6 i_7 w
  | _ => False

def probityref01_plus_M0 (μ : Sl → Int → Int → World → Nat) (vs : List Value) (w : World) : Nat :=
  match vs with
  | [.slice _a_0p _a_0l _a_0c, .slice _b_1p _b_1l _b_1c, .slice out_5p out_5l out_5c, .int .i64 carry_6, .int .i64 i_7] => μ ⟨out_5p, out_5l, out_5c⟩ carry_6 i_7 w
  | _ => 0

theorem probityref01_plus_h0 (Kv : VW) : holdsAt Tryz.prog probityref01_plus_E 54 (probityref01_plus_O Kv) 0 := holdsAt_loop (by kernel_rfl) (fun ρ vs w h => by
  rw [probityref01_plus_q0] at h
  unfold probityref01_plus_P0 at h
  split at h
  · rename_i ρt a_0p a_0l a_0c b_1p b_1l b_1c out_5p out_5l out_5c carry_6 i_7
    obtain ⟨I, μ, h0, hr⟩ := h.out
    refine ⟨probityref01_plus_I0 ⟨a_0p, a_0l, a_0c⟩ ⟨b_1p, b_1l, b_1c⟩ I, probityref01_plus_M0 μ, ⟨⟨rfl, rfl, trivial⟩, h0⟩, fun vs w hI => ?_⟩
    unfold probityref01_plus_I0 at hI
    split at hI
    · obtain ⟨⟨h0, h1, _⟩, hI⟩ := hI
      cases h0; cases h1
      rw [← probityref01_plus_e0]
      exact hr _ _ _ _ hI
    · exact hI.elim
  · exact h.elim)

theorem probityref01_plus_e1 (Kv : VW) (N0 : List Value → World → Prop) (ρ : Rho) (a_0p : Option Addr) (a_0l a_0c : Nat) (b_1p : Option Addr) (b_1l b_1c : Nat) (out_5p : Option Addr) (out_5l out_5c : Nat) (carry_6 : Int) (i_7 : Int) (w : World) : probityref01_plus_k1d ⟨a_0p, a_0l, a_0c⟩ ⟨b_1p, b_1l, b_1c⟩ ⟨out_5p, out_5l, out_5c⟩ carry_6 i_7 (fun (a_0' : Sl) (b_1' : Sl) (out_5' : Sl) (carry_6' : Int) (i_7' : Int) (w' : World) => N0 [(Value.slice a_0'.p a_0'.l a_0'.c), (Value.slice b_1'.p b_1'.l b_1'.c), (Value.slice out_5'.p out_5'.l out_5'.c), (Value.int .i64 carry_6'), (Value.int .i64 i_7')] w') (fun (r0 : Sl) (w' : World) => Kv (Value.slice r0.p r0.l r0.c) w') w = goalAt Tryz.prog probityref01_plus_E 54 (probityref01_plus_O Kv) 1 (N0 :: ρ) [(Value.slice a_0p a_0l a_0c), (Value.slice b_1p b_1l b_1c), (Value.slice out_5p out_5l out_5c), (Value.int .i64 carry_6), (Value.int .i64 i_7)] w := by kernel_rfl

theorem probityref01_plus_q1 (Kv : VW) (ρ : Rho) (vs : List Value) (w : World) : labAt (probityref01_plus_O Kv) 1 ρ vs w = probityref01_plus_P1 Kv ρ vs w := by kernel_rfl

theorem probityref01_plus_h1 (Kv : VW) : holdsAt Tryz.prog probityref01_plus_E 54 (probityref01_plus_O Kv) 1 := holdsAt_cut (.inl (by kernel_rfl)) (fun ρ vs w h => by
  rw [probityref01_plus_q1] at h
  unfold probityref01_plus_P1 at h
  split at h
  · rw [← probityref01_plus_e1]; exact h.out
  · exact h.elim)

theorem probityref01_plus_e2 (Kv : VW) (N0 : List Value → World → Prop) (ρ : Rho) (a_0p : Option Addr) (a_0l a_0c : Nat) (b_1p : Option Addr) (b_1l b_1c : Nat) (out_5p : Option Addr) (out_5l out_5c : Nat) (i_7 : Int) (d_8 : Int) (w : World) : probityref01_plus_k2d ⟨a_0p, a_0l, a_0c⟩ ⟨b_1p, b_1l, b_1c⟩ ⟨out_5p, out_5l, out_5c⟩ i_7 d_8 (fun (a_0' : Sl) (b_1' : Sl) (out_5' : Sl) (carry_6' : Int) (i_7' : Int) (w' : World) => N0 [(Value.slice a_0'.p a_0'.l a_0'.c), (Value.slice b_1'.p b_1'.l b_1'.c), (Value.slice out_5'.p out_5'.l out_5'.c), (Value.int .i64 carry_6'), (Value.int .i64 i_7')] w') (fun (r0 : Sl) (w' : World) => Kv (Value.slice r0.p r0.l r0.c) w') w = goalAt Tryz.prog probityref01_plus_E 54 (probityref01_plus_O Kv) 2 (N0 :: ρ) [(Value.slice a_0p a_0l a_0c), (Value.slice b_1p b_1l b_1c), (Value.slice out_5p out_5l out_5c), (Value.int .i64 i_7), (Value.int .i64 d_8)] w := by kernel_rfl

theorem probityref01_plus_q2 (Kv : VW) (ρ : Rho) (vs : List Value) (w : World) : labAt (probityref01_plus_O Kv) 2 ρ vs w = probityref01_plus_P2 Kv ρ vs w := by kernel_rfl

theorem probityref01_plus_h2 (Kv : VW) : holdsAt Tryz.prog probityref01_plus_E 54 (probityref01_plus_O Kv) 2 := holdsAt_cut (.inl (by kernel_rfl)) (fun ρ vs w h => by
  rw [probityref01_plus_q2] at h
  unfold probityref01_plus_P2 at h
  split at h
  · rw [← probityref01_plus_e2]; exact h.out
  · exact h.elim)

theorem probityref01_plus_e3 (Kv : VW) (N0 : List Value → World → Prop) (ρ : Rho) (a_0p : Option Addr) (a_0l a_0c : Nat) (b_1p : Option Addr) (b_1l b_1c : Nat) (out_5p : Option Addr) (out_5l out_5c : Nat) (i_7 : Int) (d_8 : Int) (w : World) : probityref01_plus_k3d ⟨a_0p, a_0l, a_0c⟩ ⟨b_1p, b_1l, b_1c⟩ ⟨out_5p, out_5l, out_5c⟩ i_7 d_8 (fun (a_0' : Sl) (b_1' : Sl) (out_5' : Sl) (carry_6' : Int) (i_7' : Int) (w' : World) => N0 [(Value.slice a_0'.p a_0'.l a_0'.c), (Value.slice b_1'.p b_1'.l b_1'.c), (Value.slice out_5'.p out_5'.l out_5'.c), (Value.int .i64 carry_6'), (Value.int .i64 i_7')] w') (fun (r0 : Sl) (w' : World) => Kv (Value.slice r0.p r0.l r0.c) w') w = goalAt Tryz.prog probityref01_plus_E 54 (probityref01_plus_O Kv) 3 (N0 :: ρ) [(Value.slice a_0p a_0l a_0c), (Value.slice b_1p b_1l b_1c), (Value.slice out_5p out_5l out_5c), (Value.int .i64 i_7), (Value.int .i64 d_8)] w := by kernel_rfl

theorem probityref01_plus_q3 (Kv : VW) (ρ : Rho) (vs : List Value) (w : World) : labAt (probityref01_plus_O Kv) 3 ρ vs w = probityref01_plus_P3 Kv ρ vs w := by kernel_rfl

theorem probityref01_plus_h3 (Kv : VW) : holdsAt Tryz.prog probityref01_plus_E 54 (probityref01_plus_O Kv) 3 := holdsAt_cut (.inl (by kernel_rfl)) (fun ρ vs w h => by
  rw [probityref01_plus_q3] at h
  unfold probityref01_plus_P3 at h
  split at h
  · rw [← probityref01_plus_e3]; exact h.out
  · exact h.elim)

theorem probityref01_plus_n (Kv : VW) : obAt (probityref01_plus_O Kv) 4 = none := by kernel_rfl

theorem probityref01_plus_h (Kv : VW) : ∀ k, holdsAt Tryz.prog probityref01_plus_E 54 (probityref01_plus_O Kv) k := fun k => match k with
  | 0 => probityref01_plus_h0 Kv
  | 1 => probityref01_plus_h1 Kv
  | 2 => probityref01_plus_h2 Kv
  | 3 => probityref01_plus_h3 Kv
  | _k + 4 => holdsAt_ge (probityref01_plus_n Kv) (Nat.le_add_left _ _)

theorem probityref01_plus_ok : Sound Tryz.prog 85 probityref01_plus_S := ⟨Tryz.call85, fun vs w Kv h => by
  unfold probityref01_plus_S at h
  split at h
  · have h := h.out
    rw [probityref01_plus_e] at h
    exact calls_sound (Γ := probityref01_plus_E) progMixed trivial Tryz.func85 (code := probityref01_plus_C) (by kernel_rfl) (probityref01_plus_A Kv) Kv (holds_all (probityref01_plus_h Kv)) (Nat.le_of_ble_eq_true (by kernel_rfl)) h
  · exact h.elim⟩

/-! probityref01_mul -/
def probityref01_mul_sd (a_0_0 : Bool) (a_0_1 : Sl) (b_1_0 : Bool) (b_1_1 : Sl) (K : Bool → Sl → World → Prop) (w : World) : Prop :=
  let w1 : World := w.alloc (Obj.cells #[(Value.bool a_0_0), (Value.slice a_0_1.p a_0_1.l a_0_1.c)] 74)
  let w2 : World := w1.alloc (Obj.cells #[(Value.bool b_1_0), (Value.slice b_1_1.p b_1_1.l b_1_1.c)] 74)
  let w3 : World := w2.alloc (Obj.cells #[(Value.bool false), (Value.slice none 0 0)] 74)
  let w4 : World := w3.drew
  ∃ S5 : World → Prop, S5 w4 ∧ ∃ x6 : Bool, (∀ w' : World, S5 w' → w'.cell? (Addr.mk w.heap.size 0 none) = some (Value.bool x6)) ∧ ∃ x7 : Bool, (∀ w' : World, S5 w' → w'.cell? (Addr.mk w1.heap.size 0 none) = some (Value.bool x7)) ∧ ∃ x8 : Sl, (∀ w' : World, S5 w' → w'.cell? (Addr.mk w.heap.size 1 none) = some (Value.slice x8.p x8.l x8.c)) ∧ ∃ x9 : Sl, (∀ w' : World, S5 w' → w'.cell? (Addr.mk w1.heap.size 1 none) = some (Value.slice x9.p x9.l x9.c)) ∧ probityref01_times_sh x8 x9 (fun (r11 : Sl) (w10 : World) => S5 w10 ∧ wrOk w10 (Addr.mk w2.heap.size 0 none) ∧ 
  (let w12 : World := w10.setCell (Addr.mk w2.heap.size 0 none) (Value.bool (!(x6 == x7)))
  wrOk w12 (Addr.mk w2.heap.size 1 none) ∧ 
  (let w13 : World := w12.setCell (Addr.mk w2.heap.size 1 none) (Value.slice r11.p r11.l r11.c)
  ∃ x14 : Bool, w13.cell? (Addr.mk w2.heap.size 0 none) = some (Value.bool x14) ∧ ∃ x15 : Sl, w13.cell? (Addr.mk w2.heap.size 1 none) = some (Value.slice x15.p x15.l x15.c) ∧ K x14 x15 w13))) w4

structure probityref01_mul_sh (a_0_0 : Bool) (a_0_1 : Sl) (b_1_0 : Bool) (b_1_1 : Sl) (K : Bool → Sl → World → Prop) (w : World) : Prop where
  out : probityref01_mul_sd a_0_0 a_0_1 b_1_0 b_1_1 K w

noncomputable def probityref01_mul_S : Pw.Spec := fun vs w Kv =>
  match vs with
  | [.agg ⟨[.bool a_0_0, .slice a_0_1p a_0_1l a_0_1c]⟩, .agg ⟨[.bool b_1_0, .slice b_1_1p b_1_1l b_1_1c]⟩] => probityref01_mul_sh a_0_0 ⟨a_0_1p, a_0_1l, a_0_1c⟩ b_1_0 ⟨b_1_1p, b_1_1l, b_1_1c⟩ (fun (r0_0 : Bool) (r0_1 : Sl) (w' : World) => Kv (Value.agg #[(Value.bool r0_0), (Value.slice r0_1.p r0_1.l r0_1.c)]) w') w
  | _ => False

noncomputable def probityref01_mul_E : Pw.Env := [(88, probityref01_times_S)]

noncomputable def probityref01_mul_C : Code := (Tryz.f64.body).getD .skip

noncomputable def probityref01_mul_A (_Kv : VW) : Pw.A :=
  (A.seq (A.reg (RA.run (RA.run (RA.run RA.done))))
   (A.seq (A.drw (DA.pur 0 (DA.pur 1 (DA.pur 2 (DA.pur 3 (DA.pur 4 (DA.pur 5 (DA.pur 6 (DA.pur 7 (DA.pur 8 (DA.eff 9 (DA.pur 10 (DA.eff 11 DA.done)))))))))))))
   A.leaf))

noncomputable def probityref01_mul_O (Kv : VW) : List Ob := (obs Tryz.prog probityref01_mul_E 16 (probityref01_mul_A Kv) probityref01_mul_C (fun _ => retQ Tryz.prog Tryz.f64.results Kv))

theorem probityref01_mul_e (Kv : VW) (a_0_0 : Bool) (a_0_1p : Option Addr) (a_0_1l a_0_1c : Nat) (b_1_0 : Bool) (b_1_1p : Option Addr) (b_1_1l b_1_1c : Nat) (w : World) : probityref01_mul_sd a_0_0 ⟨a_0_1p, a_0_1l, a_0_1c⟩ b_1_0 ⟨b_1_1p, b_1_1l, b_1_1c⟩ (fun (r0_0 : Bool) (r0_1 : Sl) (w' : World) => Kv (Value.agg #[(Value.bool r0_0), (Value.slice r0_1.p r0_1.l r0_1.c)]) w') w = W Tryz.prog probityref01_mul_E 16 (probityref01_mul_A Kv) probityref01_mul_C [] (retQ Tryz.prog Tryz.f64.results Kv) [] (startS [(Value.agg #[(Value.bool a_0_0), (Value.slice a_0_1p a_0_1l a_0_1c)]), (Value.agg #[(Value.bool b_1_0), (Value.slice b_1_1p b_1_1l b_1_1c)])]) w := by kernel_rfl

theorem probityref01_mul_n (Kv : VW) : obAt (probityref01_mul_O Kv) 0 = none := by kernel_rfl

theorem probityref01_mul_h (Kv : VW) : ∀ k, holdsAt Tryz.prog probityref01_mul_E 16 (probityref01_mul_O Kv) k := fun _ => holdsAt_ge (probityref01_mul_n Kv) (Nat.zero_le _)

theorem probityref01_mul_ok : Sound Tryz.prog 64 probityref01_mul_S := ⟨Tryz.call64, fun vs w Kv h => by
  unfold probityref01_mul_S at h
  split at h
  · have h := h.out
    rw [probityref01_mul_e] at h
    exact calls_sound (Γ := probityref01_mul_E) progMixed ⟨.inl probityref01_times_ok, trivial⟩ Tryz.func64 (code := probityref01_mul_C) (by kernel_rfl) (probityref01_mul_A Kv) Kv (holds_all (probityref01_mul_h Kv)) (Nat.le_of_ble_eq_true (by kernel_rfl)) h
  · exact h.elim⟩

/-! probityref01_add -/
def probityref01_add_sd (a_0_0 : Bool) (a_0_1 : Sl) (b_1_0 : Bool) (b_1_1 : Sl) (K : Bool → Sl → World → Prop) (w : World) : Prop :=
  let w1 : World := w.alloc (Obj.cells #[(Value.bool a_0_0), (Value.slice a_0_1.p a_0_1.l a_0_1.c)] 74)
  let w2 : World := w1.alloc (Obj.cells #[(Value.bool b_1_0), (Value.slice b_1_1.p b_1_1.l b_1_1.c)] 74)
  let w3 : World := w2.alloc (Obj.cells #[(Value.bool false), (Value.slice none 0 0)] 74)
  ∃ x4 : Bool, w3.cell? (Addr.mk w.heap.size 0 none) = some (Value.bool x4) ∧ ∃ x5 : Bool, w3.cell? (Addr.mk w1.heap.size 0 none) = some (Value.bool x5) ∧ cnd (x4 == x5)
    (let w6 : World := w3.drew
  ∃ S7 : World → Prop, S7 w6 ∧ ∃ x8 : Bool, (∀ w' : World, S7 w' → w'.cell? (Addr.mk w.heap.size 0 none) = some (Value.bool x8)) ∧ ∃ x9 : Sl, (∀ w' : World, S7 w' → w'.cell? (Addr.mk w.heap.size 1 none) = some (Value.slice x9.p x9.l x9.c)) ∧ ∃ x10 : Sl, (∀ w' : World, S7 w' → w'.cell? (Addr.mk w1.heap.size 1 none) = some (Value.slice x10.p x10.l x10.c)) ∧ probityref01_plus_sh x9 x10 (fun (r12 : Sl) (w11 : World) => S7 w11 ∧ wrOk w11 (Addr.mk w2.heap.size 0 none) ∧ 
  (let w13 : World := w11.setCell (Addr.mk w2.heap.size 0 none) (Value.bool x8)
  wrOk w13 (Addr.mk w2.heap.size 1 none) ∧ 
  (let w14 : World := w13.setCell (Addr.mk w2.heap.size 1 none) (Value.slice r12.p r12.l r12.c)
  ∃ x15 : Bool, w14.cell? (Addr.mk w2.heap.size 0 none) = some (Value.bool x15) ∧ ∃ x16 : Sl, w14.cell? (Addr.mk w2.heap.size 1 none) = some (Value.slice x16.p x16.l x16.c) ∧ K x15 x16 w14))) w6)
    (let w17 : World := w3.drew
  ∃ S18 : World → Prop, S18 w17 ∧ ∃ x19 : Sl, (∀ w' : World, S18 w' → w'.cell? (Addr.mk w.heap.size 1 none) = some (Value.slice x19.p x19.l x19.c)) ∧ ∃ x20 : Sl, (∀ w' : World, S18 w' → w'.cell? (Addr.mk w1.heap.size 1 none) = some (Value.slice x20.p x20.l x20.c)) ∧ probityref01_trim_sh x19 (fun (r22 : Sl) (w21 : World) => S18 w21 ∧ probityref01_trim_sh x20 (fun (r24 : Sl) (w23 : World) => S18 w23 ∧ probityref01_compare_sh r22 r24 (fun (r26 : Int) (w25 : World) => S18 w25 ∧ cnd (decide (r26 ≥ (0 : Int)))
    (let w27 : World := w25.drew
  ∃ S28 : World → Prop, S28 w27 ∧ ∃ x29 : Bool, (∀ w' : World, S28 w' → w'.cell? (Addr.mk w.heap.size 0 none) = some (Value.bool x29)) ∧ ∃ x30 : Sl, (∀ w' : World, S28 w' → w'.cell? (Addr.mk w.heap.size 1 none) = some (Value.slice x30.p x30.l x30.c)) ∧ ∃ x31 : Sl, (∀ w' : World, S28 w' → w'.cell? (Addr.mk w1.heap.size 1 none) = some (Value.slice x31.p x31.l x31.c)) ∧ probityref01_minus_sh x30 x31 (fun (r33 : Sl) (w32 : World) => S28 w32 ∧ wrOk w32 (Addr.mk w2.heap.size 0 none) ∧ 
  (let w34 : World := w32.setCell (Addr.mk w2.heap.size 0 none) (Value.bool x29)
  wrOk w34 (Addr.mk w2.heap.size 1 none) ∧ 
  (let w35 : World := w34.setCell (Addr.mk w2.heap.size 1 none) (Value.slice r33.p r33.l r33.c)
  ∃ x36 : Bool, w35.cell? (Addr.mk w2.heap.size 0 none) = some (Value.bool x36) ∧ ∃ x37 : Sl, w35.cell? (Addr.mk w2.heap.size 1 none) = some (Value.slice x37.p x37.l x37.c) ∧ K x36 x37 w35))) w27)
    (let w38 : World := w25.drew
  ∃ S39 : World → Prop, S39 w38 ∧ ∃ x40 : Bool, (∀ w' : World, S39 w' → w'.cell? (Addr.mk w1.heap.size 0 none) = some (Value.bool x40)) ∧ ∃ x41 : Sl, (∀ w' : World, S39 w' → w'.cell? (Addr.mk w1.heap.size 1 none) = some (Value.slice x41.p x41.l x41.c)) ∧ ∃ x42 : Sl, (∀ w' : World, S39 w' → w'.cell? (Addr.mk w.heap.size 1 none) = some (Value.slice x42.p x42.l x42.c)) ∧ probityref01_minus_sh x41 x42 (fun (r44 : Sl) (w43 : World) => S39 w43 ∧ wrOk w43 (Addr.mk w2.heap.size 0 none) ∧ 
  (let w45 : World := w43.setCell (Addr.mk w2.heap.size 0 none) (Value.bool x40)
  wrOk w45 (Addr.mk w2.heap.size 1 none) ∧ 
  (let w46 : World := w45.setCell (Addr.mk w2.heap.size 1 none) (Value.slice r44.p r44.l r44.c)
  ∃ x47 : Bool, w46.cell? (Addr.mk w2.heap.size 0 none) = some (Value.bool x47) ∧ ∃ x48 : Sl, w46.cell? (Addr.mk w2.heap.size 1 none) = some (Value.slice x48.p x48.l x48.c) ∧ K x47 x48 w46))) w38)) w23) w21) w17)

structure probityref01_add_sh (a_0_0 : Bool) (a_0_1 : Sl) (b_1_0 : Bool) (b_1_1 : Sl) (K : Bool → Sl → World → Prop) (w : World) : Prop where
  out : probityref01_add_sd a_0_0 a_0_1 b_1_0 b_1_1 K w

noncomputable def probityref01_add_S : Pw.Spec := fun vs w Kv =>
  match vs with
  | [.agg ⟨[.bool a_0_0, .slice a_0_1p a_0_1l a_0_1c]⟩, .agg ⟨[.bool b_1_0, .slice b_1_1p b_1_1l b_1_1c]⟩] => probityref01_add_sh a_0_0 ⟨a_0_1p, a_0_1l, a_0_1c⟩ b_1_0 ⟨b_1_1p, b_1_1l, b_1_1c⟩ (fun (r0_0 : Bool) (r0_1 : Sl) (w' : World) => Kv (Value.agg #[(Value.bool r0_0), (Value.slice r0_1.p r0_1.l r0_1.c)]) w') w
  | _ => False

noncomputable def probityref01_add_E : Pw.Env := [(66, probityref01_trim_S), (85, probityref01_plus_S), (86, probityref01_compare_S), (87, probityref01_minus_S)]

noncomputable def probityref01_add_C : Code := (Tryz.f63.body).getD .skip

noncomputable def probityref01_add_A (_Kv : VW) : Pw.A :=
  (A.seq (A.reg (RA.run (RA.run (RA.run RA.done))))
   (A.seq (A.seq (A.reg (RA.run (RA.run (RA.run (RA.run (RA.run RA.done))))))
   (A.cond (A.seq (A.drw (DA.pur 0 (DA.pur 1 (DA.pur 2 (DA.pur 3 (DA.pur 4 (DA.pur 5 (DA.eff 6 (DA.pur 7 (DA.eff 8 DA.done))))))))))
   A.leaf)
   A.leaf))
   (A.seq (A.seq (A.drw (DA.pur 0 (DA.pur 1 (DA.pur 3 (DA.pur 4 (DA.eff 2 (DA.eff 5 (DA.eff 6 (DA.pur 7 DA.done)))))))))
   (A.cond (A.seq (A.drw (DA.pur 0 (DA.pur 1 (DA.pur 2 (DA.pur 3 (DA.pur 4 (DA.pur 5 (DA.eff 6 (DA.pur 7 (DA.eff 8 DA.done))))))))))
   A.leaf)
   A.leaf))
   (A.seq (A.drw (DA.pur 0 (DA.pur 1 (DA.pur 2 (DA.pur 3 (DA.pur 4 (DA.pur 5 (DA.eff 6 (DA.pur 7 (DA.eff 8 DA.done))))))))))
   A.leaf))))

noncomputable def probityref01_add_O (Kv : VW) : List Ob := (obs Tryz.prog probityref01_add_E 42 (probityref01_add_A Kv) probityref01_add_C (fun _ => retQ Tryz.prog Tryz.f63.results Kv))

theorem probityref01_add_e (Kv : VW) (a_0_0 : Bool) (a_0_1p : Option Addr) (a_0_1l a_0_1c : Nat) (b_1_0 : Bool) (b_1_1p : Option Addr) (b_1_1l b_1_1c : Nat) (w : World) : probityref01_add_sd a_0_0 ⟨a_0_1p, a_0_1l, a_0_1c⟩ b_1_0 ⟨b_1_1p, b_1_1l, b_1_1c⟩ (fun (r0_0 : Bool) (r0_1 : Sl) (w' : World) => Kv (Value.agg #[(Value.bool r0_0), (Value.slice r0_1.p r0_1.l r0_1.c)]) w') w = W Tryz.prog probityref01_add_E 42 (probityref01_add_A Kv) probityref01_add_C [] (retQ Tryz.prog Tryz.f63.results Kv) [] (startS [(Value.agg #[(Value.bool a_0_0), (Value.slice a_0_1p a_0_1l a_0_1c)]), (Value.agg #[(Value.bool b_1_0), (Value.slice b_1_1p b_1_1l b_1_1c)])]) w := by kernel_rfl

theorem probityref01_add_n (Kv : VW) : obAt (probityref01_add_O Kv) 0 = none := by kernel_rfl

theorem probityref01_add_h (Kv : VW) : ∀ k, holdsAt Tryz.prog probityref01_add_E 42 (probityref01_add_O Kv) k := fun _ => holdsAt_ge (probityref01_add_n Kv) (Nat.zero_le _)

theorem probityref01_add_ok : Sound Tryz.prog 63 probityref01_add_S := ⟨Tryz.call63, fun vs w Kv h => by
  unfold probityref01_add_S at h
  split at h
  · have h := h.out
    rw [probityref01_add_e] at h
    exact calls_sound (Γ := probityref01_add_E) progMixed ⟨.inl probityref01_trim_ok, .inl probityref01_plus_ok, .inl probityref01_compare_ok, .inl probityref01_minus_ok, trivial⟩ Tryz.func63 (code := probityref01_add_C) (by kernel_rfl) (probityref01_add_A Kv) Kv (holds_all (probityref01_add_h Kv)) (Nat.le_of_ble_eq_true (by kernel_rfl)) h
  · exact h.elim⟩

/-! probityref01_Right -/
def probityref01_Right_k1d (a_1 : Addr) (b_3 : Addr) (ok_4 : Bool)  (K : Bool → World → Prop) (w : World) : Prop :=
  cnd ok_4
    (∃ x55 : Int, w.cell? a_1 = some (Value.int .i64 x55) ∧ ∃ x56 : Int, w.cell? (a_1.add 1) = some (Value.int .i64 x56) ∧ ∃ x57 : Int, w.cell? b_3 = some (Value.int .i64 x57) ∧ ∃ x58 : Int, w.cell? (b_3.add 1) = some (Value.int .i64 x58) ∧ K (x55 == x57 && (x56 == x58 && true)) w)
    (K false w)
structure probityref01_Right_k1 (a_1 : Addr) (b_3 : Addr) (ok_4 : Bool)  (K : Bool → World → Prop) (w : World) : Prop where
  out : probityref01_Right_k1d a_1 b_3 ok_4 K w

def probityref01_Right_k0d (a_1 : Addr)  (K : Bool → World → Prop) (w : World) : Prop :=
  let w17 : World := w.drew
  ∃ S18 : World → Prop, S18 w17 ∧ ∃ x19 : Int, (∀ w' : World, S18 w' → w'.cell? a_1 = some (Value.int .i64 x19)) ∧ ∃ x20 : Int, (∀ w' : World, S18 w' → w'.cell? (a_1.add 1) = some (Value.int .i64 x20)) ∧ (probityref01_of_sh x19 (fun (r22_0 : Bool) (r22_1 : Sl) (w21 : World) => S18 w21 ∧ (probityref01_of_sh x20 (fun (r24_0 : Bool) (r24_1 : Sl) (w23 : World) => S18 w23 ∧ (probityref01_lowest_sh r22_0 r22_1 r24_0 r24_1 (fun (r26_0 : Int) (r26_1 : Int) (r27 : Bool) (w25 : World) => S18 w25 ∧ let w28 : World := w25.alloc (Obj.cells #[(Value.int .i64 (0 : Int)), (Value.int .i64 (0 : Int))] 26)
  S18 w28 ∧ wrOk w28 (Addr.mk w25.heap.size 0 none) ∧ 
  (let w29 : World := w28.setCell (Addr.mk w25.heap.size 0 none) (Value.int .i64 r26_0)
  wrOk w29 (Addr.mk w25.heap.size 1 none) ∧ 
  (let w30 : World := w29.setCell (Addr.mk w25.heap.size 1 none) (Value.int .i64 r26_1)
  probityref01_Right_k1 a_1 (Addr.mk w25.heap.size 0 none) r27 K w30))) w23)
    ∧ (let w31 : World := w23.alloc (Obj.cells #[(Value.int .i64 (0 : Int)), (Value.int .i64 (0 : Int))] 26)
  S18 w31 ∧ probityref01_lowest_sh r22_0 r22_1 r24_0 r24_1 (fun (r33_0 : Int) (r33_1 : Int) (r34 : Bool) (w32 : World) => S18 w32 ∧ wrOk w32 (Addr.mk w23.heap.size 0 none) ∧ 
  (let w35 : World := w32.setCell (Addr.mk w23.heap.size 0 none) (Value.int .i64 r33_0)
  wrOk w35 (Addr.mk w23.heap.size 1 none) ∧ 
  (let w36 : World := w35.setCell (Addr.mk w23.heap.size 1 none) (Value.int .i64 r33_1)
  probityref01_Right_k1 a_1 (Addr.mk w23.heap.size 0 none) r34 K w36))) w31)) w21)
    ∧ (let w37 : World := w21.alloc (Obj.cells #[(Value.int .i64 (0 : Int)), (Value.int .i64 (0 : Int))] 26)
  S18 w37 ∧ probityref01_of_sh x20 (fun (r39_0 : Bool) (r39_1 : Sl) (w38 : World) => S18 w38 ∧ probityref01_lowest_sh r22_0 r22_1 r39_0 r39_1 (fun (r41_0 : Int) (r41_1 : Int) (r42 : Bool) (w40 : World) => S18 w40 ∧ wrOk w40 (Addr.mk w21.heap.size 0 none) ∧ 
  (let w43 : World := w40.setCell (Addr.mk w21.heap.size 0 none) (Value.int .i64 r41_0)
  wrOk w43 (Addr.mk w21.heap.size 1 none) ∧ 
  (let w44 : World := w43.setCell (Addr.mk w21.heap.size 1 none) (Value.int .i64 r41_1)
  probityref01_Right_k1 a_1 (Addr.mk w21.heap.size 0 none) r42 K w44))) w38) w37)) w17)
    ∧ (let w45 : World := w17.alloc (Obj.cells #[(Value.int .i64 (0 : Int)), (Value.int .i64 (0 : Int))] 26)
  S18 w45 ∧ probityref01_of_sh x19 (fun (r47_0 : Bool) (r47_1 : Sl) (w46 : World) => S18 w46 ∧ probityref01_of_sh x20 (fun (r49_0 : Bool) (r49_1 : Sl) (w48 : World) => S18 w48 ∧ probityref01_lowest_sh r47_0 r47_1 r49_0 r49_1 (fun (r51_0 : Int) (r51_1 : Int) (r52 : Bool) (w50 : World) => S18 w50 ∧ wrOk w50 (Addr.mk w17.heap.size 0 none) ∧ 
  (let w53 : World := w50.setCell (Addr.mk w17.heap.size 0 none) (Value.int .i64 r51_0)
  wrOk w53 (Addr.mk w17.heap.size 1 none) ∧ 
  (let w54 : World := w53.setCell (Addr.mk w17.heap.size 1 none) (Value.int .i64 r51_1)
  probityref01_Right_k1 a_1 (Addr.mk w17.heap.size 0 none) r52 K w54))) w48) w46) w45)
structure probityref01_Right_k0 (a_1 : Addr)  (K : Bool → World → Prop) (w : World) : Prop where
  out : probityref01_Right_k0d a_1 K w

def probityref01_Right_sd (a_0_0 : Int) (a_0_1 : Int) (K : Bool → World → Prop) (w : World) : Prop :=
  let w1 : World := w.alloc (Obj.cells #[(Value.int .i64 a_0_0), (Value.int .i64 a_0_1)] 26)
  ∃ x2 : Int, w1.cell? (Addr.mk w.heap.size 1 none) = some (Value.int .i64 x2) ∧ cnd (decide (x2 < (1 : Int)))
    (K false w1)
    (∃ x3 : Int, w1.cell? (Addr.mk w.heap.size 0 none) = some (Value.int .i64 x3) ∧ probityref01_small_sh x3 (fun (r5 : Bool) (w4 : World) => cnd r5
    (∃ x6 : Int, w4.cell? (Addr.mk w.heap.size 1 none) = some (Value.int .i64 x6) ∧ probityref01_small_sh x6 (fun (r8 : Bool) (w7 : World) => cnd r8
    (let w9 : World := w7.drew
  ∃ S10 : World → Prop, S10 w9 ∧ ∃ x11 : Int, (∀ w' : World, S10 w' → w'.cell? (Addr.mk w.heap.size 0 none) = some (Value.int .i64 x11)) ∧ ∃ x12 : Int, (∀ w' : World, S10 w' → w'.cell? (Addr.mk w.heap.size 1 none) = some (Value.int .i64 x12)) ∧ ∃ x13 : Int, (∀ w' : World, S10 w' → w'.cell? (Addr.mk w.heap.size 0 none) = some (Value.int .i64 x13)) ∧ ∃ x14 : Int, (∀ w' : World, S10 w' → w'.cell? (Addr.mk w.heap.size 1 none) = some (Value.int .i64 x14)) ∧ probityref01_quick_sh x11 x12 (fun (r16_0 : Int) (r16_1 : Int) (w15 : World) => S10 w15 ∧ K (r16_0 == x13 && (r16_1 == x14 && true)) w15) w9)
    (probityref01_Right_k0 (Addr.mk w.heap.size 0 none) K w7)) w4)
    (probityref01_Right_k0 (Addr.mk w.heap.size 0 none) K w4)) w1)

structure probityref01_Right_sh (a_0_0 : Int) (a_0_1 : Int) (K : Bool → World → Prop) (w : World) : Prop where
  out : probityref01_Right_sd a_0_0 a_0_1 K w

def probityref01_Right_P0 (Kv : VW) (ρ : Rho) (vs : List Value) (w : World) : Prop :=
  match ρ, vs with
  | _, [.pointer (some a_1)] => probityref01_Right_k0 a_1  (fun (r0 : Bool) (w' : World) => Kv (Value.bool r0) w') w
  | _, _ => False

def probityref01_Right_P1 (Kv : VW) (ρ : Rho) (vs : List Value) (w : World) : Prop :=
  match ρ, vs with
  | _, [.pointer (some a_1), .pointer (some b_3), .bool ok_4] => probityref01_Right_k1 a_1 b_3 ok_4  (fun (r0 : Bool) (w' : World) => Kv (Value.bool r0) w') w
  | _, _ => False

noncomputable def probityref01_Right_S : Pw.Spec := fun vs w Kv =>
  match vs with
  | [.agg ⟨[.int .i64 a_0_0, .int .i64 a_0_1]⟩] => probityref01_Right_sh a_0_0 a_0_1 (fun (r0 : Bool) (w' : World) => Kv (Value.bool r0) w') w
  | _ => False

noncomputable def probityref01_Right_E : Pw.Env := [(51, probityref01_small_S), (52, probityref01_quick_S), (53, probityref01_lowest_S), (54, probityref01_of_S)]

noncomputable def probityref01_Right_C : Code := (Tryz.f38.body).getD .skip

noncomputable def probityref01_Right_A (Kv : VW) : Pw.A :=
  (A.seq (A.reg (RA.run (RA.run RA.done)))
   (A.seq (A.seq (A.reg (RA.run (RA.run (RA.run RA.done))))
   (A.cond (A.seq (A.reg (RA.run RA.done))
   A.leaf)
   A.leaf))
   (A.seq (A.seq (A.reg (RA.run (RA.run (RA.run (RA.run (RA.spl 11 (RA.run (RA.run (RA.run (RA.run RA.done)))) (RA.skp (RA.skp (RA.skp (RA.run RA.done))))))))))
   (A.cond (A.seq (A.drw (DA.pur 0 (DA.pur 1 (DA.pur 2 (DA.pur 3 (DA.pur 5 (DA.eff 4 (DA.pur 6 (DA.pur 7 DA.done)))))))))
   A.leaf)
   A.leaf))
   (A.cut [1] (probityref01_Right_P0 Kv) (A.seq (A.drw (DA.pur 0 (DA.pur 1 (DA.pur 3 (DA.pur 4 (DA.two 2 (DA.two 5 (DA.two 6 (DA.pur 7 (DA.pur 8 (DA.pur 9 (DA.eff 10 (DA.eff 11 (DA.pur 12 DA.done)))))) 10 (DA.eff 6 (DA.pur 7 (DA.pur 8 (DA.pur 9 (DA.eff 11 (DA.pur 12 DA.done))))))) 10 (DA.eff 5 (DA.eff 6 (DA.pur 7 (DA.pur 8 (DA.pur 9 (DA.eff 11 (DA.pur 12 DA.done)))))))) 10 (DA.eff 2 (DA.eff 5 (DA.eff 6 (DA.pur 7 (DA.pur 8 (DA.pur 9 (DA.eff 11 (DA.pur 12 DA.done))))))))))))))
   (A.cut [1, 3, 4] (probityref01_Right_P1 Kv) (A.seq (A.reg (RA.run (RA.run (RA.spl 34 (RA.run (RA.run (RA.run (RA.run (RA.run RA.done))))) (RA.skp (RA.skp (RA.skp (RA.run (RA.run RA.done)))))))))
   A.leaf)))))))

noncomputable def probityref01_Right_O (Kv : VW) : List Ob := (obs Tryz.prog probityref01_Right_E 39 (probityref01_Right_A Kv) probityref01_Right_C (fun _ => retQ Tryz.prog Tryz.f38.results Kv))

theorem probityref01_Right_e (Kv : VW) (a_0_0 : Int) (a_0_1 : Int) (w : World) : probityref01_Right_sd a_0_0 a_0_1 (fun (r0 : Bool) (w' : World) => Kv (Value.bool r0) w') w = W Tryz.prog probityref01_Right_E 39 (probityref01_Right_A Kv) probityref01_Right_C [] (retQ Tryz.prog Tryz.f38.results Kv) [] (startS [(Value.agg #[(Value.int .i64 a_0_0), (Value.int .i64 a_0_1)])]) w := by kernel_rfl

theorem probityref01_Right_e0 (Kv : VW) (ρ : Rho) (a_1 : Addr) (w : World) : probityref01_Right_k0d a_1  (fun (r0 : Bool) (w' : World) => Kv (Value.bool r0) w') w = goalAt Tryz.prog probityref01_Right_E 39 (probityref01_Right_O Kv) 0 (ρ) [(Value.pointer (some a_1))] w := by kernel_rfl

theorem probityref01_Right_q0 (Kv : VW) (ρ : Rho) (vs : List Value) (w : World) : labAt (probityref01_Right_O Kv) 0 ρ vs w = probityref01_Right_P0 Kv ρ vs w := by kernel_rfl

theorem probityref01_Right_h0 (Kv : VW) : holdsAt Tryz.prog probityref01_Right_E 39 (probityref01_Right_O Kv) 0 := holdsAt_cut (.inl (by kernel_rfl)) (fun ρ vs w h => by
  rw [probityref01_Right_q0] at h
  unfold probityref01_Right_P0 at h
  split at h
  · rw [← probityref01_Right_e0]; exact h.out
  · exact h.elim)

theorem probityref01_Right_e1 (Kv : VW) (ρ : Rho) (a_1 : Addr) (b_3 : Addr) (ok_4 : Bool) (w : World) : probityref01_Right_k1d a_1 b_3 ok_4  (fun (r0 : Bool) (w' : World) => Kv (Value.bool r0) w') w = goalAt Tryz.prog probityref01_Right_E 39 (probityref01_Right_O Kv) 1 (ρ) [(Value.pointer (some a_1)), (Value.pointer (some b_3)), (Value.bool ok_4)] w := by kernel_rfl

theorem probityref01_Right_q1 (Kv : VW) (ρ : Rho) (vs : List Value) (w : World) : labAt (probityref01_Right_O Kv) 1 ρ vs w = probityref01_Right_P1 Kv ρ vs w := by kernel_rfl

theorem probityref01_Right_h1 (Kv : VW) : holdsAt Tryz.prog probityref01_Right_E 39 (probityref01_Right_O Kv) 1 := holdsAt_cut (.inl (by kernel_rfl)) (fun ρ vs w h => by
  rw [probityref01_Right_q1] at h
  unfold probityref01_Right_P1 at h
  split at h
  · rw [← probityref01_Right_e1]; exact h.out
  · exact h.elim)

theorem probityref01_Right_n (Kv : VW) : obAt (probityref01_Right_O Kv) 2 = none := by kernel_rfl

theorem probityref01_Right_h (Kv : VW) : ∀ k, holdsAt Tryz.prog probityref01_Right_E 39 (probityref01_Right_O Kv) k := fun k => match k with
  | 0 => probityref01_Right_h0 Kv
  | 1 => probityref01_Right_h1 Kv
  | _k + 2 => holdsAt_ge (probityref01_Right_n Kv) (Nat.le_add_left _ _)

theorem probityref01_Right_ok : Sound Tryz.prog 38 probityref01_Right_S := ⟨Tryz.call38, fun vs w Kv h => by
  unfold probityref01_Right_S at h
  split at h
  · have h := h.out
    rw [probityref01_Right_e] at h
    exact calls_sound (Γ := probityref01_Right_E) progMixed ⟨.inl probityref01_small_ok, .inl probityref01_quick_ok, .inl probityref01_lowest_ok, .inl probityref01_of_ok, trivial⟩ Tryz.func38 (code := probityref01_Right_C) (by kernel_rfl) (probityref01_Right_A Kv) Kv (holds_all (probityref01_Right_h Kv)) (Nat.le_of_ble_eq_true (by kernel_rfl)) h
  · exact h.elim⟩

/-! probityref01_both -/
def probityref01_both_sd (a_0_0 : Int) (a_0_1 : Int) (b_1_0 : Int) (b_1_1 : Int) (K : Bool → World → Prop) (w : World) : Prop :=
  let w1 : World := w.alloc (Obj.cells #[(Value.int .i64 a_0_0), (Value.int .i64 a_0_1)] 26)
  let w2 : World := w1.alloc (Obj.cells #[(Value.int .i64 b_1_0), (Value.int .i64 b_1_1)] 26)
  ∃ x3 : Int, w2.cell? (Addr.mk w.heap.size 0 none) = some (Value.int .i64 x3) ∧ ∃ x4 : Int, w2.cell? (Addr.mk w.heap.size 1 none) = some (Value.int .i64 x4) ∧ probityref01_Right_sh x3 x4 (fun (r6 : Bool) (w5 : World) => ∃ x7 : Int, w5.cell? (Addr.mk w1.heap.size 0 none) = some (Value.int .i64 x7) ∧ ∃ x8 : Int, w5.cell? (Addr.mk w1.heap.size 1 none) = some (Value.int .i64 x8) ∧ probityref01_Right_sh x7 x8 (fun (r10 : Bool) (w9 : World) => cnd r6
    (K r10 w9)
    (K false w9)) w5) w2

structure probityref01_both_sh (a_0_0 : Int) (a_0_1 : Int) (b_1_0 : Int) (b_1_1 : Int) (K : Bool → World → Prop) (w : World) : Prop where
  out : probityref01_both_sd a_0_0 a_0_1 b_1_0 b_1_1 K w

noncomputable def probityref01_both_S : Pw.Spec := fun vs w Kv =>
  match vs with
  | [.agg ⟨[.int .i64 a_0_0, .int .i64 a_0_1]⟩, .agg ⟨[.int .i64 b_1_0, .int .i64 b_1_1]⟩] => probityref01_both_sh a_0_0 a_0_1 b_1_0 b_1_1 (fun (r0 : Bool) (w' : World) => Kv (Value.bool r0) w') w
  | _ => False

noncomputable def probityref01_both_E : Pw.Env := [(38, probityref01_Right_S)]

noncomputable def probityref01_both_C : Code := (Tryz.f61.body).getD .skip

noncomputable def probityref01_both_A (_Kv : VW) : Pw.A :=
  (A.seq (A.reg (RA.run (RA.run (RA.run RA.done))))
   (A.seq (A.reg (RA.run (RA.run (RA.run RA.done))))
   (A.seq (A.reg (RA.run (RA.run (RA.run RA.done))))
   (A.seq (A.reg (RA.run (RA.run (RA.spl 12 (RA.run (RA.run (RA.run RA.done))) (RA.skp (RA.run (RA.run RA.done)))))))
   A.leaf))))

noncomputable def probityref01_both_O (Kv : VW) : List Ob := (obs Tryz.prog probityref01_both_E 15 (probityref01_both_A Kv) probityref01_both_C (fun _ => retQ Tryz.prog Tryz.f61.results Kv))

theorem probityref01_both_e (Kv : VW) (a_0_0 : Int) (a_0_1 : Int) (b_1_0 : Int) (b_1_1 : Int) (w : World) : probityref01_both_sd a_0_0 a_0_1 b_1_0 b_1_1 (fun (r0 : Bool) (w' : World) => Kv (Value.bool r0) w') w = W Tryz.prog probityref01_both_E 15 (probityref01_both_A Kv) probityref01_both_C [] (retQ Tryz.prog Tryz.f61.results Kv) [] (startS [(Value.agg #[(Value.int .i64 a_0_0), (Value.int .i64 a_0_1)]), (Value.agg #[(Value.int .i64 b_1_0), (Value.int .i64 b_1_1)])]) w := by kernel_rfl

theorem probityref01_both_n (Kv : VW) : obAt (probityref01_both_O Kv) 0 = none := by kernel_rfl

theorem probityref01_both_h (Kv : VW) : ∀ k, holdsAt Tryz.prog probityref01_both_E 15 (probityref01_both_O Kv) k := fun _ => holdsAt_ge (probityref01_both_n Kv) (Nat.zero_le _)

theorem probityref01_both_ok : Sound Tryz.prog 61 probityref01_both_S := ⟨Tryz.call61, fun vs w Kv h => by
  unfold probityref01_both_S at h
  split at h
  · have h := h.out
    rw [probityref01_both_e] at h
    exact calls_sound (Γ := probityref01_both_E) progMixed ⟨.inl probityref01_Right_ok, trivial⟩ Tryz.func61 (code := probityref01_both_C) (by kernel_rfl) (probityref01_both_A Kv) Kv (holds_all (probityref01_both_h Kv)) (Nat.le_of_ble_eq_true (by kernel_rfl)) h
  · exact h.elim⟩

/-! probityref01_tiny -/
def probityref01_tiny_sd (a_0_0 : Int) (a_0_1 : Int) (b_1_0 : Int) (b_1_1 : Int) (K : Bool → World → Prop) (w : World) : Prop :=
  let w1 : World := w.alloc (Obj.cells #[(Value.int .i64 a_0_0), (Value.int .i64 a_0_1)] 26)
  let w2 : World := w1.alloc (Obj.cells #[(Value.int .i64 b_1_0), (Value.int .i64 b_1_1)] 26)
  ∃ x3 : Int, w2.cell? (Addr.mk w.heap.size 0 none) = some (Value.int .i64 x3) ∧ probityref01_small_sh x3 (fun (r5 : Bool) (w4 : World) => cnd r5
    (∃ x6 : Int, w4.cell? (Addr.mk w.heap.size 1 none) = some (Value.int .i64 x6) ∧ probityref01_small_sh x6 (fun (r8 : Bool) (w7 : World) => cnd r8
    (∃ x9 : Int, w7.cell? (Addr.mk w1.heap.size 0 none) = some (Value.int .i64 x9) ∧ probityref01_small_sh x9 (fun (r11 : Bool) (w10 : World) => cnd r11
    (∃ x12 : Int, w10.cell? (Addr.mk w1.heap.size 1 none) = some (Value.int .i64 x12) ∧ probityref01_small_sh x12 (fun (r14 : Bool) (w13 : World) => K r14 w13) w10)
    (K false w10)) w7)
    (K false w7)) w4)
    (K false w4)) w2

structure probityref01_tiny_sh (a_0_0 : Int) (a_0_1 : Int) (b_1_0 : Int) (b_1_1 : Int) (K : Bool → World → Prop) (w : World) : Prop where
  out : probityref01_tiny_sd a_0_0 a_0_1 b_1_0 b_1_1 K w

noncomputable def probityref01_tiny_S : Pw.Spec := fun vs w Kv =>
  match vs with
  | [.agg ⟨[.int .i64 a_0_0, .int .i64 a_0_1]⟩, .agg ⟨[.int .i64 b_1_0, .int .i64 b_1_1]⟩] => probityref01_tiny_sh a_0_0 a_0_1 b_1_0 b_1_1 (fun (r0 : Bool) (w' : World) => Kv (Value.bool r0) w') w
  | _ => False

noncomputable def probityref01_tiny_E : Pw.Env := [(51, probityref01_small_S)]

noncomputable def probityref01_tiny_C : Code := (Tryz.f62.body).getD .skip

noncomputable def probityref01_tiny_A (_Kv : VW) : Pw.A :=
  (A.seq (A.reg (RA.run (RA.run (RA.run RA.done))))
   (A.seq (A.reg (RA.run (RA.run (RA.run (RA.run (RA.spl 8 (RA.run (RA.run (RA.run (RA.run (RA.run (RA.spl 13 (RA.run (RA.run (RA.run (RA.run (RA.run (RA.spl 18 (RA.run (RA.run (RA.run (RA.run (RA.run RA.done))))) (RA.skp (RA.skp (RA.skp (RA.run (RA.run RA.done))))))))))) (RA.skp (RA.skp (RA.skp (RA.run (RA.run (RA.skp (RA.skp (RA.skp (RA.run (RA.run RA.done)))))))))))))))) (RA.skp (RA.skp (RA.skp (RA.run (RA.run (RA.skp (RA.skp (RA.skp (RA.run (RA.run (RA.skp (RA.skp (RA.skp (RA.run (RA.run RA.done)))))))))))))))))))))
   A.leaf))

noncomputable def probityref01_tiny_O (Kv : VW) : List Ob := (obs Tryz.prog probityref01_tiny_E 23 (probityref01_tiny_A Kv) probityref01_tiny_C (fun _ => retQ Tryz.prog Tryz.f62.results Kv))

theorem probityref01_tiny_e (Kv : VW) (a_0_0 : Int) (a_0_1 : Int) (b_1_0 : Int) (b_1_1 : Int) (w : World) : probityref01_tiny_sd a_0_0 a_0_1 b_1_0 b_1_1 (fun (r0 : Bool) (w' : World) => Kv (Value.bool r0) w') w = W Tryz.prog probityref01_tiny_E 23 (probityref01_tiny_A Kv) probityref01_tiny_C [] (retQ Tryz.prog Tryz.f62.results Kv) [] (startS [(Value.agg #[(Value.int .i64 a_0_0), (Value.int .i64 a_0_1)]), (Value.agg #[(Value.int .i64 b_1_0), (Value.int .i64 b_1_1)])]) w := by kernel_rfl

theorem probityref01_tiny_n (Kv : VW) : obAt (probityref01_tiny_O Kv) 0 = none := by kernel_rfl

theorem probityref01_tiny_h (Kv : VW) : ∀ k, holdsAt Tryz.prog probityref01_tiny_E 23 (probityref01_tiny_O Kv) k := fun _ => holdsAt_ge (probityref01_tiny_n Kv) (Nat.zero_le _)

theorem probityref01_tiny_ok : Sound Tryz.prog 62 probityref01_tiny_S := ⟨Tryz.call62, fun vs w Kv h => by
  unfold probityref01_tiny_S at h
  split at h
  · have h := h.out
    rw [probityref01_tiny_e] at h
    exact calls_sound (Γ := probityref01_tiny_E) progMixed ⟨.inl probityref01_small_ok, trivial⟩ Tryz.func62 (code := probityref01_tiny_C) (by kernel_rfl) (probityref01_tiny_A Kv) Kv (holds_all (probityref01_tiny_h Kv)) (Nat.le_of_ble_eq_true (by kernel_rfl)) h
  · exact h.elim⟩

/-! probityref01_Add -/
def probityref01_Add_sd (a_0_0 : Int) (a_0_1 : Int) (b_1_0 : Int) (b_1_1 : Int) (K : Int → Int → Bool → World → Prop) (w : World) : Prop :=
  let w1 : World := w.alloc (Obj.cells #[(Value.int .i64 a_0_0), (Value.int .i64 a_0_1)] 26)
  let w2 : World := w1.alloc (Obj.cells #[(Value.int .i64 b_1_0), (Value.int .i64 b_1_1)] 26)
  let w3 : World := w2.alloc (Obj.cells #[(Value.int .i64 (0 : Int)), (Value.int .i64 (0 : Int))] 26)
  ∃ x4 : Int, w3.cell? (Addr.mk w.heap.size 0 none) = some (Value.int .i64 x4) ∧ ∃ x5 : Int, w3.cell? (Addr.mk w.heap.size 1 none) = some (Value.int .i64 x5) ∧ ∃ x6 : Int, w3.cell? (Addr.mk w1.heap.size 0 none) = some (Value.int .i64 x6) ∧ ∃ x7 : Int, w3.cell? (Addr.mk w1.heap.size 1 none) = some (Value.int .i64 x7) ∧ probityref01_both_sh x4 x5 x6 x7 (fun (r9 : Bool) (w8 : World) => cnd (!r9)
    (probityref01_Of_sh (0 : Int) (fun (r11_0 : Int) (r11_1 : Int) (w10 : World) => wrOk w10 (Addr.mk w2.heap.size 0 none) ∧ 
  (let w12 : World := w10.setCell (Addr.mk w2.heap.size 0 none) (Value.int .i64 r11_0)
  wrOk w12 (Addr.mk w2.heap.size 1 none) ∧ 
  (let w13 : World := w12.setCell (Addr.mk w2.heap.size 1 none) (Value.int .i64 r11_1)
  ∃ x14 : Int, w13.cell? (Addr.mk w2.heap.size 0 none) = some (Value.int .i64 x14) ∧ ∃ x15 : Int, w13.cell? (Addr.mk w2.heap.size 1 none) = some (Value.int .i64 x15) ∧ K x14 x15 false w13))) w8)
    (∃ x16 : Int, w8.cell? (Addr.mk w.heap.size 0 none) = some (Value.int .i64 x16) ∧ ∃ x17 : Int, w8.cell? (Addr.mk w.heap.size 1 none) = some (Value.int .i64 x17) ∧ ∃ x18 : Int, w8.cell? (Addr.mk w1.heap.size 0 none) = some (Value.int .i64 x18) ∧ ∃ x19 : Int, w8.cell? (Addr.mk w1.heap.size 1 none) = some (Value.int .i64 x19) ∧ probityref01_tiny_sh x16 x17 x18 x19 (fun (r21 : Bool) (w20 : World) => cnd r21
    (∃ x22 : Int, w20.cell? (Addr.mk w.heap.size 0 none) = some (Value.int .i64 x22) ∧ ∃ x23 : Int, w20.cell? (Addr.mk w1.heap.size 1 none) = some (Value.int .i64 x23) ∧ inR .i64 (x22 * x23) ∧ ∃ x24 : Int, w20.cell? (Addr.mk w1.heap.size 0 none) = some (Value.int .i64 x24) ∧ ∃ x25 : Int, w20.cell? (Addr.mk w.heap.size 1 none) = some (Value.int .i64 x25) ∧ inR .i64 (x24 * x25) ∧ inR .i64 ((x22 * x23) + (x24 * x25)) ∧ ∃ x26 : Int, w20.cell? (Addr.mk w.heap.size 1 none) = some (Value.int .i64 x26) ∧ ∃ x27 : Int, w20.cell? (Addr.mk w1.heap.size 1 none) = some (Value.int .i64 x27) ∧ inR .i64 (x26 * x27) ∧ probityref01_quick_sh ((x22 * x23) + (x24 * x25)) (x26 * x27) (fun (r29_0 : Int) (r29_1 : Int) (w28 : World) => wrOk w28 (Addr.mk w2.heap.size 0 none) ∧ 
  (let w30 : World := w28.setCell (Addr.mk w2.heap.size 0 none) (Value.int .i64 r29_0)
  wrOk w30 (Addr.mk w2.heap.size 1 none) ∧ 
  (let w31 : World := w30.setCell (Addr.mk w2.heap.size 1 none) (Value.int .i64 r29_1)
  ∃ x32 : Int, w31.cell? (Addr.mk w2.heap.size 0 none) = some (Value.int .i64 x32) ∧ ∃ x33 : Int, w31.cell? (Addr.mk w2.heap.size 1 none) = some (Value.int .i64 x33) ∧ K x32 x33 true w31))) w20)
    (let w34 : World := w20.drew
  ∃ S35 : World → Prop, S35 w34 ∧ ∃ x36 : Int, (∀ w' : World, S35 w' → w'.cell? (Addr.mk w.heap.size 0 none) = some (Value.int .i64 x36)) ∧ ∃ x37 : Int, (∀ w' : World, S35 w' → w'.cell? (Addr.mk w1.heap.size 1 none) = some (Value.int .i64 x37)) ∧ ∃ x38 : Int, (∀ w' : World, S35 w' → w'.cell? (Addr.mk w1.heap.size 0 none) = some (Value.int .i64 x38)) ∧ ∃ x39 : Int, (∀ w' : World, S35 w' → w'.cell? (Addr.mk w.heap.size 1 none) = some (Value.int .i64 x39)) ∧ ∃ x40 : Int, (∀ w' : World, S35 w' → w'.cell? (Addr.mk w.heap.size 1 none) = some (Value.int .i64 x40)) ∧ ∃ x41 : Int, (∀ w' : World, S35 w' → w'.cell? (Addr.mk w1.heap.size 1 none) = some (Value.int .i64 x41)) ∧ probityref01_of_sh x36 (fun (r43_0 : Bool) (r43_1 : Sl) (w42 : World) => S35 w42 ∧ probityref01_of_sh x37 (fun (r45_0 : Bool) (r45_1 : Sl) (w44 : World) => S35 w44 ∧ probityref01_mul_sh r43_0 r43_1 r45_0 r45_1 (fun (r47_0 : Bool) (r47_1 : Sl) (w46 : World) => S35 w46 ∧ probityref01_of_sh x38 (fun (r49_0 : Bool) (r49_1 : Sl) (w48 : World) => S35 w48 ∧ probityref01_of_sh x39 (fun (r51_0 : Bool) (r51_1 : Sl) (w50 : World) => S35 w50 ∧ probityref01_mul_sh r49_0 r49_1 r51_0 r51_1 (fun (r53_0 : Bool) (r53_1 : Sl) (w52 : World) => S35 w52 ∧ probityref01_add_sh r47_0 r47_1 r53_0 r53_1 (fun (r55_0 : Bool) (r55_1 : Sl) (w54 : World) => S35 w54 ∧ probityref01_of_sh x40 (fun (r57_0 : Bool) (r57_1 : Sl) (w56 : World) => S35 w56 ∧ probityref01_of_sh x41 (fun (r59_0 : Bool) (r59_1 : Sl) (w58 : World) => S35 w58 ∧ probityref01_mul_sh r57_0 r57_1 r59_0 r59_1 (fun (r61_0 : Bool) (r61_1 : Sl) (w60 : World) => S35 w60 ∧ probityref01_lowest_sh r55_0 r55_1 r61_0 r61_1 (fun (r63_0 : Int) (r63_1 : Int) (r64 : Bool) (w62 : World) => S35 w62 ∧ wrOk w62 (Addr.mk w2.heap.size 0 none) ∧ 
  (let w65 : World := w62.setCell (Addr.mk w2.heap.size 0 none) (Value.int .i64 r63_0)
  wrOk w65 (Addr.mk w2.heap.size 1 none) ∧ 
  (let w66 : World := w65.setCell (Addr.mk w2.heap.size 1 none) (Value.int .i64 r63_1)
  ∃ x67 : Int, w66.cell? (Addr.mk w2.heap.size 0 none) = some (Value.int .i64 x67) ∧ ∃ x68 : Int, w66.cell? (Addr.mk w2.heap.size 1 none) = some (Value.int .i64 x68) ∧ K x67 x68 r64 w66))) w60) w58) w56) w54) w52) w50) w48) w46) w44) w42) w34)) w8)) w3

structure probityref01_Add_sh (a_0_0 : Int) (a_0_1 : Int) (b_1_0 : Int) (b_1_1 : Int) (K : Int → Int → Bool → World → Prop) (w : World) : Prop where
  out : probityref01_Add_sd a_0_0 a_0_1 b_1_0 b_1_1 K w

noncomputable def probityref01_Add_S : Pw.Spec := fun vs w Kv =>
  match vs with
  | [.agg ⟨[.int .i64 a_0_0, .int .i64 a_0_1]⟩, .agg ⟨[.int .i64 b_1_0, .int .i64 b_1_1]⟩] => probityref01_Add_sh a_0_0 a_0_1 b_1_0 b_1_1 (fun (r0_0 : Int) (r0_1 : Int) (r1 : Bool) (w' : World) => Kv (Value.tuple #[(Value.agg #[(Value.int .i64 r0_0), (Value.int .i64 r0_1)]), (Value.bool r1)]) w') w
  | _ => False

noncomputable def probityref01_Add_E : Pw.Env := [(24, probityref01_Of_S), (52, probityref01_quick_S), (53, probityref01_lowest_S), (54, probityref01_of_S), (61, probityref01_both_S), (62, probityref01_tiny_S), (63, probityref01_add_S), (64, probityref01_mul_S)]

noncomputable def probityref01_Add_C : Code := (Tryz.f32.body).getD .skip

noncomputable def probityref01_Add_A (_Kv : VW) : Pw.A :=
  (A.seq (A.reg (RA.run (RA.run (RA.run (RA.run RA.done)))))
   (A.seq (A.seq (A.reg (RA.run (RA.run (RA.run (RA.run RA.done)))))
   (A.cond (A.seq (A.reg (RA.run (RA.run (RA.run RA.done))))
   A.leaf)
   A.leaf))
   (A.seq (A.seq (A.reg (RA.run (RA.run (RA.run RA.done))))
   (A.cond (A.seq (A.reg (RA.run (RA.run (RA.run (RA.run (RA.run (RA.run (RA.run (RA.run (RA.run (RA.run (RA.run (RA.run (RA.run (RA.run (RA.run (RA.run (RA.run (RA.run (RA.run RA.done))))))))))))))))))))
   A.leaf)
   A.leaf))
   (A.seq (A.drw (DA.pur 0 (DA.pur 1 (DA.pur 3 (DA.pur 4 (DA.pur 7 (DA.pur 8 (DA.pur 10 (DA.pur 11 (DA.pur 15 (DA.pur 16 (DA.pur 18 (DA.pur 19 (DA.eff 2 (DA.eff 5 (DA.eff 6 (DA.eff 9 (DA.eff 12 (DA.eff 13 (DA.eff 14 (DA.eff 17 (DA.eff 20 (DA.eff 21 (DA.eff 22 (DA.pur 23 (DA.pur 24 (DA.eff 25 (DA.pur 26 DA.done))))))))))))))))))))))))))))
   A.leaf))))

noncomputable def probityref01_Add_O (Kv : VW) : List Ob := (obs Tryz.prog probityref01_Add_E 56 (probityref01_Add_A Kv) probityref01_Add_C (fun _ => retQ Tryz.prog Tryz.f32.results Kv))

theorem probityref01_Add_e (Kv : VW) (a_0_0 : Int) (a_0_1 : Int) (b_1_0 : Int) (b_1_1 : Int) (w : World) : probityref01_Add_sd a_0_0 a_0_1 b_1_0 b_1_1 (fun (r0_0 : Int) (r0_1 : Int) (r1 : Bool) (w' : World) => Kv (Value.tuple #[(Value.agg #[(Value.int .i64 r0_0), (Value.int .i64 r0_1)]), (Value.bool r1)]) w') w = W Tryz.prog probityref01_Add_E 56 (probityref01_Add_A Kv) probityref01_Add_C [] (retQ Tryz.prog Tryz.f32.results Kv) [] (startS [(Value.agg #[(Value.int .i64 a_0_0), (Value.int .i64 a_0_1)]), (Value.agg #[(Value.int .i64 b_1_0), (Value.int .i64 b_1_1)])]) w := by kernel_rfl

theorem probityref01_Add_n (Kv : VW) : obAt (probityref01_Add_O Kv) 0 = none := by kernel_rfl

theorem probityref01_Add_h (Kv : VW) : ∀ k, holdsAt Tryz.prog probityref01_Add_E 56 (probityref01_Add_O Kv) k := fun _ => holdsAt_ge (probityref01_Add_n Kv) (Nat.zero_le _)

theorem probityref01_Add_ok : Sound Tryz.prog 32 probityref01_Add_S := ⟨Tryz.call32, fun vs w Kv h => by
  unfold probityref01_Add_S at h
  split at h
  · have h := h.out
    rw [probityref01_Add_e] at h
    exact calls_sound (Γ := probityref01_Add_E) progMixed ⟨.inl probityref01_Of_ok, .inl probityref01_quick_ok, .inl probityref01_lowest_ok, .inl probityref01_of_ok, .inl probityref01_both_ok, .inl probityref01_tiny_ok, .inl probityref01_add_ok, .inl probityref01_mul_ok, trivial⟩ Tryz.func32 (code := probityref01_Add_C) (by kernel_rfl) (probityref01_Add_A Kv) Kv (holds_all (probityref01_Add_h Kv)) (Nat.le_of_ble_eq_true (by kernel_rfl)) h
  · exact h.elim⟩

/-! probityref01_Sub -/
def probityref01_Sub_k0d (a_2 : Addr) (b_3 : Addr) (t_4 : Addr) (minus_6 : Addr)  (K : Int → Int → Bool → World → Prop) (w : World) : Prop :=
  ∃ x68 : Bool, w.cell? minus_6 = some (Value.bool x68) ∧ wrOk w minus_6 ∧ 
  (let w69 : World := w.setCell minus_6 (Value.bool (!x68))
  let w70 : World := w69.drew
  ∃ S71 : World → Prop, S71 w70 ∧ ∃ x72 : Int, (∀ w' : World, S71 w' → w'.cell? a_2 = some (Value.int .i64 x72)) ∧ ∃ x73 : Int, (∀ w' : World, S71 w' → w'.cell? (b_3.add 1) = some (Value.int .i64 x73)) ∧ ∃ x74 : Bool, (∀ w' : World, S71 w' → w'.cell? minus_6 = some (Value.bool x74)) ∧ ∃ x75 : Sl, (∀ w' : World, S71 w' → w'.cell? (minus_6.add 1) = some (Value.slice x75.p x75.l x75.c)) ∧ ∃ x76 : Int, (∀ w' : World, S71 w' → w'.cell? (a_2.add 1) = some (Value.int .i64 x76)) ∧ ∃ x77 : Int, (∀ w' : World, S71 w' → w'.cell? (b_3.add 1) = some (Value.int .i64 x77)) ∧ probityref01_of_sh x72 (fun (r79_0 : Bool) (r79_1 : Sl) (w78 : World) => S71 w78 ∧ probityref01_of_sh x73 (fun (r81_0 : Bool) (r81_1 : Sl) (w80 : World) => S71 w80 ∧ probityref01_mul_sh r79_0 r79_1 r81_0 r81_1 (fun (r83_0 : Bool) (r83_1 : Sl) (w82 : World) => S71 w82 ∧ probityref01_add_sh r83_0 r83_1 x74 x75 (fun (r85_0 : Bool) (r85_1 : Sl) (w84 : World) => S71 w84 ∧ probityref01_of_sh x76 (fun (r87_0 : Bool) (r87_1 : Sl) (w86 : World) => S71 w86 ∧ probityref01_of_sh x77 (fun (r89_0 : Bool) (r89_1 : Sl) (w88 : World) => S71 w88 ∧ probityref01_mul_sh r87_0 r87_1 r89_0 r89_1 (fun (r91_0 : Bool) (r91_1 : Sl) (w90 : World) => S71 w90 ∧ probityref01_lowest_sh r85_0 r85_1 r91_0 r91_1 (fun (r93_0 : Int) (r93_1 : Int) (r94 : Bool) (w92 : World) => S71 w92 ∧ wrOk w92 t_4 ∧ 
  (let w95 : World := w92.setCell t_4 (Value.int .i64 r93_0)
  wrOk w95 (t_4.add 1) ∧ 
  (let w96 : World := w95.setCell (t_4.add 1) (Value.int .i64 r93_1)
  ∃ x97 : Int, w96.cell? t_4 = some (Value.int .i64 x97) ∧ ∃ x98 : Int, w96.cell? (t_4.add 1) = some (Value.int .i64 x98) ∧ K x97 x98 r94 w96))) w90) w88) w86) w84) w82) w80) w78) w70)
structure probityref01_Sub_k0 (a_2 : Addr) (b_3 : Addr) (t_4 : Addr) (minus_6 : Addr)  (K : Int → Int → Bool → World → Prop) (w : World) : Prop where
  out : probityref01_Sub_k0d a_2 b_3 t_4 minus_6 K w

def probityref01_Sub_sd (a_0_0 : Int) (a_0_1 : Int) (b_1_0 : Int) (b_1_1 : Int) (K : Int → Int → Bool → World → Prop) (w : World) : Prop :=
  let w1 : World := w.alloc (Obj.cells #[(Value.int .i64 a_0_0), (Value.int .i64 a_0_1)] 26)
  let w2 : World := w1.alloc (Obj.cells #[(Value.int .i64 b_1_0), (Value.int .i64 b_1_1)] 26)
  let w3 : World := w2.alloc (Obj.cells #[(Value.int .i64 (0 : Int)), (Value.int .i64 (0 : Int))] 26)
  ∃ x4 : Int, w3.cell? (Addr.mk w.heap.size 0 none) = some (Value.int .i64 x4) ∧ ∃ x5 : Int, w3.cell? (Addr.mk w.heap.size 1 none) = some (Value.int .i64 x5) ∧ ∃ x6 : Int, w3.cell? (Addr.mk w1.heap.size 0 none) = some (Value.int .i64 x6) ∧ ∃ x7 : Int, w3.cell? (Addr.mk w1.heap.size 1 none) = some (Value.int .i64 x7) ∧ probityref01_both_sh x4 x5 x6 x7 (fun (r9 : Bool) (w8 : World) => cnd (!r9)
    (probityref01_Of_sh (0 : Int) (fun (r11_0 : Int) (r11_1 : Int) (w10 : World) => wrOk w10 (Addr.mk w2.heap.size 0 none) ∧ 
  (let w12 : World := w10.setCell (Addr.mk w2.heap.size 0 none) (Value.int .i64 r11_0)
  wrOk w12 (Addr.mk w2.heap.size 1 none) ∧ 
  (let w13 : World := w12.setCell (Addr.mk w2.heap.size 1 none) (Value.int .i64 r11_1)
  ∃ x14 : Int, w13.cell? (Addr.mk w2.heap.size 0 none) = some (Value.int .i64 x14) ∧ ∃ x15 : Int, w13.cell? (Addr.mk w2.heap.size 1 none) = some (Value.int .i64 x15) ∧ K x14 x15 false w13))) w8)
    (∃ x16 : Int, w8.cell? (Addr.mk w.heap.size 0 none) = some (Value.int .i64 x16) ∧ ∃ x17 : Int, w8.cell? (Addr.mk w.heap.size 1 none) = some (Value.int .i64 x17) ∧ ∃ x18 : Int, w8.cell? (Addr.mk w1.heap.size 0 none) = some (Value.int .i64 x18) ∧ ∃ x19 : Int, w8.cell? (Addr.mk w1.heap.size 1 none) = some (Value.int .i64 x19) ∧ probityref01_tiny_sh x16 x17 x18 x19 (fun (r21 : Bool) (w20 : World) => cnd r21
    (∃ x22 : Int, w20.cell? (Addr.mk w.heap.size 0 none) = some (Value.int .i64 x22) ∧ ∃ x23 : Int, w20.cell? (Addr.mk w1.heap.size 1 none) = some (Value.int .i64 x23) ∧ inR .i64 (x22 * x23) ∧ ∃ x24 : Int, w20.cell? (Addr.mk w1.heap.size 0 none) = some (Value.int .i64 x24) ∧ ∃ x25 : Int, w20.cell? (Addr.mk w.heap.size 1 none) = some (Value.int .i64 x25) ∧ inR .i64 (x24 * x25) ∧ inR .i64 ((x22 * x23) - (x24 * x25)) ∧ ∃ x26 : Int, w20.cell? (Addr.mk w.heap.size 1 none) = some (Value.int .i64 x26) ∧ ∃ x27 : Int, w20.cell? (Addr.mk w1.heap.size 1 none) = some (Value.int .i64 x27) ∧ inR .i64 (x26 * x27) ∧ probityref01_quick_sh ((x22 * x23) - (x24 * x25)) (x26 * x27) (fun (r29_0 : Int) (r29_1 : Int) (w28 : World) => wrOk w28 (Addr.mk w2.heap.size 0 none) ∧ 
  (let w30 : World := w28.setCell (Addr.mk w2.heap.size 0 none) (Value.int .i64 r29_0)
  wrOk w30 (Addr.mk w2.heap.size 1 none) ∧ 
  (let w31 : World := w30.setCell (Addr.mk w2.heap.size 1 none) (Value.int .i64 r29_1)
  ∃ x32 : Int, w31.cell? (Addr.mk w2.heap.size 0 none) = some (Value.int .i64 x32) ∧ ∃ x33 : Int, w31.cell? (Addr.mk w2.heap.size 1 none) = some (Value.int .i64 x33) ∧ K x32 x33 true w31))) w20)
    (let w34 : World := w20.drew
  ∃ S35 : World → Prop, S35 w34 ∧ ∃ x36 : Int, (∀ w' : World, S35 w' → w'.cell? (Addr.mk w1.heap.size 0 none) = some (Value.int .i64 x36)) ∧ ∃ x37 : Int, (∀ w' : World, S35 w' → w'.cell? (Addr.mk w.heap.size 1 none) = some (Value.int .i64 x37)) ∧ (probityref01_of_sh x36 (fun (r39_0 : Bool) (r39_1 : Sl) (w38 : World) => S35 w38 ∧ (probityref01_of_sh x37 (fun (r41_0 : Bool) (r41_1 : Sl) (w40 : World) => S35 w40 ∧ (probityref01_mul_sh r39_0 r39_1 r41_0 r41_1 (fun (r43_0 : Bool) (r43_1 : Sl) (w42 : World) => S35 w42 ∧ let w44 : World := w42.alloc (Obj.cells #[(Value.bool false), (Value.slice none 0 0)] 74)
  S35 w44 ∧ wrOk w44 (Addr.mk w42.heap.size 0 none) ∧ 
  (let w45 : World := w44.setCell (Addr.mk w42.heap.size 0 none) (Value.bool r43_0)
  wrOk w45 (Addr.mk w42.heap.size 1 none) ∧ 
  (let w46 : World := w45.setCell (Addr.mk w42.heap.size 1 none) (Value.slice r43_1.p r43_1.l r43_1.c)
  probityref01_Sub_k0 (Addr.mk w.heap.size 0 none) (Addr.mk w1.heap.size 0 none) (Addr.mk w2.heap.size 0 none) (Addr.mk w42.heap.size 0 none) K w46))) w40)
    ∧ (let w47 : World := w40.alloc (Obj.cells #[(Value.bool false), (Value.slice none 0 0)] 74)
  S35 w47 ∧ probityref01_mul_sh r39_0 r39_1 r41_0 r41_1 (fun (r49_0 : Bool) (r49_1 : Sl) (w48 : World) => S35 w48 ∧ wrOk w48 (Addr.mk w40.heap.size 0 none) ∧ 
  (let w50 : World := w48.setCell (Addr.mk w40.heap.size 0 none) (Value.bool r49_0)
  wrOk w50 (Addr.mk w40.heap.size 1 none) ∧ 
  (let w51 : World := w50.setCell (Addr.mk w40.heap.size 1 none) (Value.slice r49_1.p r49_1.l r49_1.c)
  probityref01_Sub_k0 (Addr.mk w.heap.size 0 none) (Addr.mk w1.heap.size 0 none) (Addr.mk w2.heap.size 0 none) (Addr.mk w40.heap.size 0 none) K w51))) w47)) w38)
    ∧ (let w52 : World := w38.alloc (Obj.cells #[(Value.bool false), (Value.slice none 0 0)] 74)
  S35 w52 ∧ probityref01_of_sh x37 (fun (r54_0 : Bool) (r54_1 : Sl) (w53 : World) => S35 w53 ∧ probityref01_mul_sh r39_0 r39_1 r54_0 r54_1 (fun (r56_0 : Bool) (r56_1 : Sl) (w55 : World) => S35 w55 ∧ wrOk w55 (Addr.mk w38.heap.size 0 none) ∧ 
  (let w57 : World := w55.setCell (Addr.mk w38.heap.size 0 none) (Value.bool r56_0)
  wrOk w57 (Addr.mk w38.heap.size 1 none) ∧ 
  (let w58 : World := w57.setCell (Addr.mk w38.heap.size 1 none) (Value.slice r56_1.p r56_1.l r56_1.c)
  probityref01_Sub_k0 (Addr.mk w.heap.size 0 none) (Addr.mk w1.heap.size 0 none) (Addr.mk w2.heap.size 0 none) (Addr.mk w38.heap.size 0 none) K w58))) w53) w52)) w34)
    ∧ (let w59 : World := w34.alloc (Obj.cells #[(Value.bool false), (Value.slice none 0 0)] 74)
  S35 w59 ∧ probityref01_of_sh x36 (fun (r61_0 : Bool) (r61_1 : Sl) (w60 : World) => S35 w60 ∧ probityref01_of_sh x37 (fun (r63_0 : Bool) (r63_1 : Sl) (w62 : World) => S35 w62 ∧ probityref01_mul_sh r61_0 r61_1 r63_0 r63_1 (fun (r65_0 : Bool) (r65_1 : Sl) (w64 : World) => S35 w64 ∧ wrOk w64 (Addr.mk w34.heap.size 0 none) ∧ 
  (let w66 : World := w64.setCell (Addr.mk w34.heap.size 0 none) (Value.bool r65_0)
  wrOk w66 (Addr.mk w34.heap.size 1 none) ∧ 
  (let w67 : World := w66.setCell (Addr.mk w34.heap.size 1 none) (Value.slice r65_1.p r65_1.l r65_1.c)
  probityref01_Sub_k0 (Addr.mk w.heap.size 0 none) (Addr.mk w1.heap.size 0 none) (Addr.mk w2.heap.size 0 none) (Addr.mk w34.heap.size 0 none) K w67))) w62) w60) w59))) w8)) w3

structure probityref01_Sub_sh (a_0_0 : Int) (a_0_1 : Int) (b_1_0 : Int) (b_1_1 : Int) (K : Int → Int → Bool → World → Prop) (w : World) : Prop where
  out : probityref01_Sub_sd a_0_0 a_0_1 b_1_0 b_1_1 K w

def probityref01_Sub_P0 (Kv : VW) (ρ : Rho) (vs : List Value) (w : World) : Prop :=
  match ρ, vs with
  | _, [.pointer (some a_2), .pointer (some b_3), .pointer (some t_4), .pointer (some minus_6)] => probityref01_Sub_k0 a_2 b_3 t_4 minus_6  (fun (r0_0 : Int) (r0_1 : Int) (r1 : Bool) (w' : World) => Kv (Value.tuple #[(Value.agg #[(Value.int .i64 r0_0), (Value.int .i64 r0_1)]), (Value.bool r1)]) w') w
  | _, _ => False

noncomputable def probityref01_Sub_S : Pw.Spec := fun vs w Kv =>
  match vs with
  | [.agg ⟨[.int .i64 a_0_0, .int .i64 a_0_1]⟩, .agg ⟨[.int .i64 b_1_0, .int .i64 b_1_1]⟩] => probityref01_Sub_sh a_0_0 a_0_1 b_1_0 b_1_1 (fun (r0_0 : Int) (r0_1 : Int) (r1 : Bool) (w' : World) => Kv (Value.tuple #[(Value.agg #[(Value.int .i64 r0_0), (Value.int .i64 r0_1)]), (Value.bool r1)]) w') w
  | _ => False

noncomputable def probityref01_Sub_E : Pw.Env := [(24, probityref01_Of_S), (52, probityref01_quick_S), (53, probityref01_lowest_S), (54, probityref01_of_S), (61, probityref01_both_S), (62, probityref01_tiny_S), (63, probityref01_add_S), (64, probityref01_mul_S)]

noncomputable def probityref01_Sub_C : Code := (Tryz.f34.body).getD .skip

noncomputable def probityref01_Sub_A (Kv : VW) : Pw.A :=
  (A.seq (A.reg (RA.run (RA.run (RA.run (RA.run RA.done)))))
   (A.seq (A.seq (A.reg (RA.run (RA.run (RA.run (RA.run RA.done)))))
   (A.cond (A.seq (A.reg (RA.run (RA.run (RA.run RA.done))))
   A.leaf)
   A.leaf))
   (A.seq (A.seq (A.reg (RA.run (RA.run (RA.run RA.done))))
   (A.cond (A.seq (A.reg (RA.run (RA.run (RA.run (RA.run (RA.run (RA.run (RA.run (RA.run (RA.run (RA.run (RA.run (RA.run (RA.run (RA.run (RA.run (RA.run (RA.run (RA.run (RA.run RA.done))))))))))))))))))))
   A.leaf)
   A.leaf))
   (A.seq (A.drw (DA.pur 0 (DA.pur 1 (DA.pur 3 (DA.pur 4 (DA.two 2 (DA.two 5 (DA.two 6 (DA.eff 7 (DA.eff 8 DA.done)) 7 (DA.eff 6 (DA.eff 8 DA.done))) 7 (DA.eff 5 (DA.eff 6 (DA.eff 8 DA.done)))) 7 (DA.eff 2 (DA.eff 5 (DA.eff 6 (DA.eff 8 DA.done))))))))))
   (A.cut [2, 3, 4, 6] (probityref01_Sub_P0 Kv) (A.seq (A.reg (RA.run (RA.run (RA.run (RA.run (RA.run RA.done))))))
   (A.seq (A.drw (DA.pur 0 (DA.pur 1 (DA.pur 3 (DA.pur 4 (DA.pur 7 (DA.pur 9 (DA.pur 10 (DA.pur 12 (DA.pur 13 (DA.eff 2 (DA.eff 5 (DA.eff 6 (DA.eff 8 (DA.eff 11 (DA.eff 14 (DA.eff 15 (DA.eff 16 (DA.pur 17 (DA.pur 18 (DA.eff 19 (DA.pur 20 DA.done))))))))))))))))))))))
   A.leaf)))))))

noncomputable def probityref01_Sub_O (Kv : VW) : List Ob := (obs Tryz.prog probityref01_Sub_E 62 (probityref01_Sub_A Kv) probityref01_Sub_C (fun _ => retQ Tryz.prog Tryz.f34.results Kv))

theorem probityref01_Sub_e (Kv : VW) (a_0_0 : Int) (a_0_1 : Int) (b_1_0 : Int) (b_1_1 : Int) (w : World) : probityref01_Sub_sd a_0_0 a_0_1 b_1_0 b_1_1 (fun (r0_0 : Int) (r0_1 : Int) (r1 : Bool) (w' : World) => Kv (Value.tuple #[(Value.agg #[(Value.int .i64 r0_0), (Value.int .i64 r0_1)]), (Value.bool r1)]) w') w = W Tryz.prog probityref01_Sub_E 62 (probityref01_Sub_A Kv) probityref01_Sub_C [] (retQ Tryz.prog Tryz.f34.results Kv) [] (startS [(Value.agg #[(Value.int .i64 a_0_0), (Value.int .i64 a_0_1)]), (Value.agg #[(Value.int .i64 b_1_0), (Value.int .i64 b_1_1)])]) w := by kernel_rfl

theorem probityref01_Sub_e0 (Kv : VW) (ρ : Rho) (a_2 : Addr) (b_3 : Addr) (t_4 : Addr) (minus_6 : Addr) (w : World) : probityref01_Sub_k0d a_2 b_3 t_4 minus_6  (fun (r0_0 : Int) (r0_1 : Int) (r1 : Bool) (w' : World) => Kv (Value.tuple #[(Value.agg #[(Value.int .i64 r0_0), (Value.int .i64 r0_1)]), (Value.bool r1)]) w') w = goalAt Tryz.prog probityref01_Sub_E 62 (probityref01_Sub_O Kv) 0 (ρ) [(Value.pointer (some a_2)), (Value.pointer (some b_3)), (Value.pointer (some t_4)), (Value.pointer (some minus_6))] w := by kernel_rfl

theorem probityref01_Sub_q0 (Kv : VW) (ρ : Rho) (vs : List Value) (w : World) : labAt (probityref01_Sub_O Kv) 0 ρ vs w = probityref01_Sub_P0 Kv ρ vs w := by kernel_rfl

theorem probityref01_Sub_h0 (Kv : VW) : holdsAt Tryz.prog probityref01_Sub_E 62 (probityref01_Sub_O Kv) 0 := holdsAt_cut (.inl (by kernel_rfl)) (fun ρ vs w h => by
  rw [probityref01_Sub_q0] at h
  unfold probityref01_Sub_P0 at h
  split at h
  · rw [← probityref01_Sub_e0]; exact h.out
  · exact h.elim)

theorem probityref01_Sub_n (Kv : VW) : obAt (probityref01_Sub_O Kv) 1 = none := by kernel_rfl

theorem probityref01_Sub_h (Kv : VW) : ∀ k, holdsAt Tryz.prog probityref01_Sub_E 62 (probityref01_Sub_O Kv) k := fun k => match k with
  | 0 => probityref01_Sub_h0 Kv
  | _k + 1 => holdsAt_ge (probityref01_Sub_n Kv) (Nat.le_add_left _ _)

theorem probityref01_Sub_ok : Sound Tryz.prog 34 probityref01_Sub_S := ⟨Tryz.call34, fun vs w Kv h => by
  unfold probityref01_Sub_S at h
  split at h
  · have h := h.out
    rw [probityref01_Sub_e] at h
    exact calls_sound (Γ := probityref01_Sub_E) progMixed ⟨.inl probityref01_Of_ok, .inl probityref01_quick_ok, .inl probityref01_lowest_ok, .inl probityref01_of_ok, .inl probityref01_both_ok, .inl probityref01_tiny_ok, .inl probityref01_add_ok, .inl probityref01_mul_ok, trivial⟩ Tryz.func34 (code := probityref01_Sub_C) (by kernel_rfl) (probityref01_Sub_A Kv) Kv (holds_all (probityref01_Sub_h Kv)) (Nat.le_of_ble_eq_true (by kernel_rfl)) h
  · exact h.elim⟩

/-! probityref01_Mul -/
def probityref01_Mul_sd (a_0_0 : Int) (a_0_1 : Int) (b_1_0 : Int) (b_1_1 : Int) (K : Int → Int → Bool → World → Prop) (w : World) : Prop :=
  let w1 : World := w.alloc (Obj.cells #[(Value.int .i64 a_0_0), (Value.int .i64 a_0_1)] 26)
  let w2 : World := w1.alloc (Obj.cells #[(Value.int .i64 b_1_0), (Value.int .i64 b_1_1)] 26)
  let w3 : World := w2.alloc (Obj.cells #[(Value.int .i64 (0 : Int)), (Value.int .i64 (0 : Int))] 26)
  ∃ x4 : Int, w3.cell? (Addr.mk w.heap.size 0 none) = some (Value.int .i64 x4) ∧ ∃ x5 : Int, w3.cell? (Addr.mk w.heap.size 1 none) = some (Value.int .i64 x5) ∧ ∃ x6 : Int, w3.cell? (Addr.mk w1.heap.size 0 none) = some (Value.int .i64 x6) ∧ ∃ x7 : Int, w3.cell? (Addr.mk w1.heap.size 1 none) = some (Value.int .i64 x7) ∧ probityref01_both_sh x4 x5 x6 x7 (fun (r9 : Bool) (w8 : World) => cnd (!r9)
    (probityref01_Of_sh (0 : Int) (fun (r11_0 : Int) (r11_1 : Int) (w10 : World) => wrOk w10 (Addr.mk w2.heap.size 0 none) ∧ 
  (let w12 : World := w10.setCell (Addr.mk w2.heap.size 0 none) (Value.int .i64 r11_0)
  wrOk w12 (Addr.mk w2.heap.size 1 none) ∧ 
  (let w13 : World := w12.setCell (Addr.mk w2.heap.size 1 none) (Value.int .i64 r11_1)
  ∃ x14 : Int, w13.cell? (Addr.mk w2.heap.size 0 none) = some (Value.int .i64 x14) ∧ ∃ x15 : Int, w13.cell? (Addr.mk w2.heap.size 1 none) = some (Value.int .i64 x15) ∧ K x14 x15 false w13))) w8)
    (∃ x16 : Int, w8.cell? (Addr.mk w.heap.size 0 none) = some (Value.int .i64 x16) ∧ ∃ x17 : Int, w8.cell? (Addr.mk w.heap.size 1 none) = some (Value.int .i64 x17) ∧ ∃ x18 : Int, w8.cell? (Addr.mk w1.heap.size 0 none) = some (Value.int .i64 x18) ∧ ∃ x19 : Int, w8.cell? (Addr.mk w1.heap.size 1 none) = some (Value.int .i64 x19) ∧ probityref01_tiny_sh x16 x17 x18 x19 (fun (r21 : Bool) (w20 : World) => cnd r21
    (∃ x22 : Int, w20.cell? (Addr.mk w.heap.size 0 none) = some (Value.int .i64 x22) ∧ ∃ x23 : Int, w20.cell? (Addr.mk w1.heap.size 0 none) = some (Value.int .i64 x23) ∧ inR .i64 (x22 * x23) ∧ ∃ x24 : Int, w20.cell? (Addr.mk w.heap.size 1 none) = some (Value.int .i64 x24) ∧ ∃ x25 : Int, w20.cell? (Addr.mk w1.heap.size 1 none) = some (Value.int .i64 x25) ∧ inR .i64 (x24 * x25) ∧ probityref01_quick_sh (x22 * x23) (x24 * x25) (fun (r27_0 : Int) (r27_1 : Int) (w26 : World) => wrOk w26 (Addr.mk w2.heap.size 0 none) ∧ 
  (let w28 : World := w26.setCell (Addr.mk w2.heap.size 0 none) (Value.int .i64 r27_0)
  wrOk w28 (Addr.mk w2.heap.size 1 none) ∧ 
  (let w29 : World := w28.setCell (Addr.mk w2.heap.size 1 none) (Value.int .i64 r27_1)
  ∃ x30 : Int, w29.cell? (Addr.mk w2.heap.size 0 none) = some (Value.int .i64 x30) ∧ ∃ x31 : Int, w29.cell? (Addr.mk w2.heap.size 1 none) = some (Value.int .i64 x31) ∧ K x30 x31 true w29))) w20)
    (let w32 : World := w20.drew
  ∃ S33 : World → Prop, S33 w32 ∧ ∃ x34 : Int, (∀ w' : World, S33 w' → w'.cell? (Addr.mk w.heap.size 0 none) = some (Value.int .i64 x34)) ∧ ∃ x35 : Int, (∀ w' : World, S33 w' → w'.cell? (Addr.mk w1.heap.size 0 none) = some (Value.int .i64 x35)) ∧ ∃ x36 : Int, (∀ w' : World, S33 w' → w'.cell? (Addr.mk w.heap.size 1 none) = some (Value.int .i64 x36)) ∧ ∃ x37 : Int, (∀ w' : World, S33 w' → w'.cell? (Addr.mk w1.heap.size 1 none) = some (Value.int .i64 x37)) ∧ probityref01_of_sh x34 (fun (r39_0 : Bool) (r39_1 : Sl) (w38 : World) => S33 w38 ∧ probityref01_of_sh x35 (fun (r41_0 : Bool) (r41_1 : Sl) (w40 : World) => S33 w40 ∧ probityref01_mul_sh r39_0 r39_1 r41_0 r41_1 (fun (r43_0 : Bool) (r43_1 : Sl) (w42 : World) => S33 w42 ∧ probityref01_of_sh x36 (fun (r45_0 : Bool) (r45_1 : Sl) (w44 : World) => S33 w44 ∧ probityref01_of_sh x37 (fun (r47_0 : Bool) (r47_1 : Sl) (w46 : World) => S33 w46 ∧ probityref01_mul_sh r45_0 r45_1 r47_0 r47_1 (fun (r49_0 : Bool) (r49_1 : Sl) (w48 : World) => S33 w48 ∧ probityref01_lowest_sh r43_0 r43_1 r49_0 r49_1 (fun (r51_0 : Int) (r51_1 : Int) (r52 : Bool) (w50 : World) => S33 w50 ∧ wrOk w50 (Addr.mk w2.heap.size 0 none) ∧ 
  (let w53 : World := w50.setCell (Addr.mk w2.heap.size 0 none) (Value.int .i64 r51_0)
  wrOk w53 (Addr.mk w2.heap.size 1 none) ∧ 
  (let w54 : World := w53.setCell (Addr.mk w2.heap.size 1 none) (Value.int .i64 r51_1)
  ∃ x55 : Int, w54.cell? (Addr.mk w2.heap.size 0 none) = some (Value.int .i64 x55) ∧ ∃ x56 : Int, w54.cell? (Addr.mk w2.heap.size 1 none) = some (Value.int .i64 x56) ∧ K x55 x56 r52 w54))) w48) w46) w44) w42) w40) w38) w32)) w8)) w3

structure probityref01_Mul_sh (a_0_0 : Int) (a_0_1 : Int) (b_1_0 : Int) (b_1_1 : Int) (K : Int → Int → Bool → World → Prop) (w : World) : Prop where
  out : probityref01_Mul_sd a_0_0 a_0_1 b_1_0 b_1_1 K w

noncomputable def probityref01_Mul_S : Pw.Spec := fun vs w Kv =>
  match vs with
  | [.agg ⟨[.int .i64 a_0_0, .int .i64 a_0_1]⟩, .agg ⟨[.int .i64 b_1_0, .int .i64 b_1_1]⟩] => probityref01_Mul_sh a_0_0 a_0_1 b_1_0 b_1_1 (fun (r0_0 : Int) (r0_1 : Int) (r1 : Bool) (w' : World) => Kv (Value.tuple #[(Value.agg #[(Value.int .i64 r0_0), (Value.int .i64 r0_1)]), (Value.bool r1)]) w') w
  | _ => False

noncomputable def probityref01_Mul_E : Pw.Env := [(24, probityref01_Of_S), (52, probityref01_quick_S), (53, probityref01_lowest_S), (54, probityref01_of_S), (61, probityref01_both_S), (62, probityref01_tiny_S), (64, probityref01_mul_S)]

noncomputable def probityref01_Mul_C : Code := (Tryz.f35.body).getD .skip

noncomputable def probityref01_Mul_A (_Kv : VW) : Pw.A :=
  (A.seq (A.reg (RA.run (RA.run (RA.run (RA.run RA.done)))))
   (A.seq (A.seq (A.reg (RA.run (RA.run (RA.run (RA.run RA.done)))))
   (A.cond (A.seq (A.reg (RA.run (RA.run (RA.run RA.done))))
   A.leaf)
   A.leaf))
   (A.seq (A.seq (A.reg (RA.run (RA.run (RA.run RA.done))))
   (A.cond (A.seq (A.reg (RA.run (RA.run (RA.run (RA.run (RA.run (RA.run (RA.run (RA.run (RA.run (RA.run (RA.run (RA.run (RA.run RA.done))))))))))))))
   A.leaf)
   A.leaf))
   (A.seq (A.drw (DA.pur 0 (DA.pur 1 (DA.pur 3 (DA.pur 4 (DA.pur 7 (DA.pur 8 (DA.pur 10 (DA.pur 11 (DA.eff 2 (DA.eff 5 (DA.eff 6 (DA.eff 9 (DA.eff 12 (DA.eff 13 (DA.eff 14 (DA.pur 15 (DA.pur 16 (DA.eff 17 (DA.pur 18 DA.done))))))))))))))))))))
   A.leaf))))

noncomputable def probityref01_Mul_O (Kv : VW) : List Ob := (obs Tryz.prog probityref01_Mul_E 42 (probityref01_Mul_A Kv) probityref01_Mul_C (fun _ => retQ Tryz.prog Tryz.f35.results Kv))

theorem probityref01_Mul_e (Kv : VW) (a_0_0 : Int) (a_0_1 : Int) (b_1_0 : Int) (b_1_1 : Int) (w : World) : probityref01_Mul_sd a_0_0 a_0_1 b_1_0 b_1_1 (fun (r0_0 : Int) (r0_1 : Int) (r1 : Bool) (w' : World) => Kv (Value.tuple #[(Value.agg #[(Value.int .i64 r0_0), (Value.int .i64 r0_1)]), (Value.bool r1)]) w') w = W Tryz.prog probityref01_Mul_E 42 (probityref01_Mul_A Kv) probityref01_Mul_C [] (retQ Tryz.prog Tryz.f35.results Kv) [] (startS [(Value.agg #[(Value.int .i64 a_0_0), (Value.int .i64 a_0_1)]), (Value.agg #[(Value.int .i64 b_1_0), (Value.int .i64 b_1_1)])]) w := by kernel_rfl

theorem probityref01_Mul_n (Kv : VW) : obAt (probityref01_Mul_O Kv) 0 = none := by kernel_rfl

theorem probityref01_Mul_h (Kv : VW) : ∀ k, holdsAt Tryz.prog probityref01_Mul_E 42 (probityref01_Mul_O Kv) k := fun _ => holdsAt_ge (probityref01_Mul_n Kv) (Nat.zero_le _)

theorem probityref01_Mul_ok : Sound Tryz.prog 35 probityref01_Mul_S := ⟨Tryz.call35, fun vs w Kv h => by
  unfold probityref01_Mul_S at h
  split at h
  · have h := h.out
    rw [probityref01_Mul_e] at h
    exact calls_sound (Γ := probityref01_Mul_E) progMixed ⟨.inl probityref01_Of_ok, .inl probityref01_quick_ok, .inl probityref01_lowest_ok, .inl probityref01_of_ok, .inl probityref01_both_ok, .inl probityref01_tiny_ok, .inl probityref01_mul_ok, trivial⟩ Tryz.func35 (code := probityref01_Mul_C) (by kernel_rfl) (probityref01_Mul_A Kv) Kv (holds_all (probityref01_Mul_h Kv)) (Nat.le_of_ble_eq_true (by kernel_rfl)) h
  · exact h.elim⟩

/-! probityref01_Quo -/
def probityref01_Quo_k0d (t_4 : Addr)  (K : Int → Int → Bool → World → Prop) (w : World) : Prop :=
  probityref01_Of_sh (0 : Int) (fun (r12_0 : Int) (r12_1 : Int) (w11 : World) => wrOk w11 t_4 ∧ 
  (let w13 : World := w11.setCell t_4 (Value.int .i64 r12_0)
  wrOk w13 (t_4.add 1) ∧ 
  (let w14 : World := w13.setCell (t_4.add 1) (Value.int .i64 r12_1)
  ∃ x15 : Int, w14.cell? t_4 = some (Value.int .i64 x15) ∧ ∃ x16 : Int, w14.cell? (t_4.add 1) = some (Value.int .i64 x16) ∧ K x15 x16 false w14))) w
structure probityref01_Quo_k0 (t_4 : Addr)  (K : Int → Int → Bool → World → Prop) (w : World) : Prop where
  out : probityref01_Quo_k0d t_4 K w

def probityref01_Quo_sd (a_0_0 : Int) (a_0_1 : Int) (b_1_0 : Int) (b_1_1 : Int) (K : Int → Int → Bool → World → Prop) (w : World) : Prop :=
  let w1 : World := w.alloc (Obj.cells #[(Value.int .i64 a_0_0), (Value.int .i64 a_0_1)] 26)
  let w2 : World := w1.alloc (Obj.cells #[(Value.int .i64 b_1_0), (Value.int .i64 b_1_1)] 26)
  let w3 : World := w2.alloc (Obj.cells #[(Value.int .i64 (0 : Int)), (Value.int .i64 (0 : Int))] 26)
  ∃ x4 : Int, w3.cell? (Addr.mk w.heap.size 0 none) = some (Value.int .i64 x4) ∧ ∃ x5 : Int, w3.cell? (Addr.mk w.heap.size 1 none) = some (Value.int .i64 x5) ∧ ∃ x6 : Int, w3.cell? (Addr.mk w1.heap.size 0 none) = some (Value.int .i64 x6) ∧ ∃ x7 : Int, w3.cell? (Addr.mk w1.heap.size 1 none) = some (Value.int .i64 x7) ∧ probityref01_both_sh x4 x5 x6 x7 (fun (r9 : Bool) (w8 : World) => cnd (!r9)
    (probityref01_Quo_k0 (Addr.mk w2.heap.size 0 none) K w8)
    (∃ x10 : Int, w8.cell? (Addr.mk w1.heap.size 0 none) = some (Value.int .i64 x10) ∧ cnd (x10 == (0 : Int))
    (probityref01_Quo_k0 (Addr.mk w2.heap.size 0 none) K w8)
    (∃ x17 : Int, w8.cell? (Addr.mk w.heap.size 0 none) = some (Value.int .i64 x17) ∧ ∃ x18 : Int, w8.cell? (Addr.mk w.heap.size 1 none) = some (Value.int .i64 x18) ∧ ∃ x19 : Int, w8.cell? (Addr.mk w1.heap.size 0 none) = some (Value.int .i64 x19) ∧ ∃ x20 : Int, w8.cell? (Addr.mk w1.heap.size 1 none) = some (Value.int .i64 x20) ∧ probityref01_tiny_sh x17 x18 x19 x20 (fun (r22 : Bool) (w21 : World) => cnd r22
    (∃ x23 : Int, w21.cell? (Addr.mk w.heap.size 0 none) = some (Value.int .i64 x23) ∧ ∃ x24 : Int, w21.cell? (Addr.mk w1.heap.size 1 none) = some (Value.int .i64 x24) ∧ inR .i64 (x23 * x24) ∧ ∃ x25 : Int, w21.cell? (Addr.mk w.heap.size 1 none) = some (Value.int .i64 x25) ∧ ∃ x26 : Int, w21.cell? (Addr.mk w1.heap.size 0 none) = some (Value.int .i64 x26) ∧ inR .i64 (x25 * x26) ∧ probityref01_quick_sh (x23 * x24) (x25 * x26) (fun (r28_0 : Int) (r28_1 : Int) (w27 : World) => wrOk w27 (Addr.mk w2.heap.size 0 none) ∧ 
  (let w29 : World := w27.setCell (Addr.mk w2.heap.size 0 none) (Value.int .i64 r28_0)
  wrOk w29 (Addr.mk w2.heap.size 1 none) ∧ 
  (let w30 : World := w29.setCell (Addr.mk w2.heap.size 1 none) (Value.int .i64 r28_1)
  ∃ x31 : Int, w30.cell? (Addr.mk w2.heap.size 0 none) = some (Value.int .i64 x31) ∧ ∃ x32 : Int, w30.cell? (Addr.mk w2.heap.size 1 none) = some (Value.int .i64 x32) ∧ K x31 x32 true w30))) w21)
    (let w33 : World := w21.drew
  ∃ S34 : World → Prop, S34 w33 ∧ ∃ x35 : Int, (∀ w' : World, S34 w' → w'.cell? (Addr.mk w.heap.size 0 none) = some (Value.int .i64 x35)) ∧ ∃ x36 : Int, (∀ w' : World, S34 w' → w'.cell? (Addr.mk w1.heap.size 1 none) = some (Value.int .i64 x36)) ∧ ∃ x37 : Int, (∀ w' : World, S34 w' → w'.cell? (Addr.mk w.heap.size 1 none) = some (Value.int .i64 x37)) ∧ ∃ x38 : Int, (∀ w' : World, S34 w' → w'.cell? (Addr.mk w1.heap.size 0 none) = some (Value.int .i64 x38)) ∧ probityref01_of_sh x35 (fun (r40_0 : Bool) (r40_1 : Sl) (w39 : World) => S34 w39 ∧ probityref01_of_sh x36 (fun (r42_0 : Bool) (r42_1 : Sl) (w41 : World) => S34 w41 ∧ probityref01_mul_sh r40_0 r40_1 r42_0 r42_1 (fun (r44_0 : Bool) (r44_1 : Sl) (w43 : World) => S34 w43 ∧ probityref01_of_sh x37 (fun (r46_0 : Bool) (r46_1 : Sl) (w45 : World) => S34 w45 ∧ probityref01_of_sh x38 (fun (r48_0 : Bool) (r48_1 : Sl) (w47 : World) => S34 w47 ∧ probityref01_mul_sh r46_0 r46_1 r48_0 r48_1 (fun (r50_0 : Bool) (r50_1 : Sl) (w49 : World) => S34 w49 ∧ probityref01_lowest_sh r44_0 r44_1 r50_0 r50_1 (fun (r52_0 : Int) (r52_1 : Int) (r53 : Bool) (w51 : World) => S34 w51 ∧ wrOk w51 (Addr.mk w2.heap.size 0 none) ∧ 
  (let w54 : World := w51.setCell (Addr.mk w2.heap.size 0 none) (Value.int .i64 r52_0)
  wrOk w54 (Addr.mk w2.heap.size 1 none) ∧ 
  (let w55 : World := w54.setCell (Addr.mk w2.heap.size 1 none) (Value.int .i64 r52_1)
  ∃ x56 : Int, w55.cell? (Addr.mk w2.heap.size 0 none) = some (Value.int .i64 x56) ∧ ∃ x57 : Int, w55.cell? (Addr.mk w2.heap.size 1 none) = some (Value.int .i64 x57) ∧ K x56 x57 r53 w55))) w49) w47) w45) w43) w41) w39) w33)) w8))) w3

structure probityref01_Quo_sh (a_0_0 : Int) (a_0_1 : Int) (b_1_0 : Int) (b_1_1 : Int) (K : Int → Int → Bool → World → Prop) (w : World) : Prop where
  out : probityref01_Quo_sd a_0_0 a_0_1 b_1_0 b_1_1 K w

def probityref01_Quo_P0 (Kv : VW) (ρ : Rho) (vs : List Value) (w : World) : Prop :=
  match ρ, vs with
  | _, [.pointer (some t_4)] => probityref01_Quo_k0 t_4  (fun (r0_0 : Int) (r0_1 : Int) (r1 : Bool) (w' : World) => Kv (Value.tuple #[(Value.agg #[(Value.int .i64 r0_0), (Value.int .i64 r0_1)]), (Value.bool r1)]) w') w
  | _, _ => False

noncomputable def probityref01_Quo_S : Pw.Spec := fun vs w Kv =>
  match vs with
  | [.agg ⟨[.int .i64 a_0_0, .int .i64 a_0_1]⟩, .agg ⟨[.int .i64 b_1_0, .int .i64 b_1_1]⟩] => probityref01_Quo_sh a_0_0 a_0_1 b_1_0 b_1_1 (fun (r0_0 : Int) (r0_1 : Int) (r1 : Bool) (w' : World) => Kv (Value.tuple #[(Value.agg #[(Value.int .i64 r0_0), (Value.int .i64 r0_1)]), (Value.bool r1)]) w') w
  | _ => False

noncomputable def probityref01_Quo_E : Pw.Env := [(24, probityref01_Of_S), (52, probityref01_quick_S), (53, probityref01_lowest_S), (54, probityref01_of_S), (61, probityref01_both_S), (62, probityref01_tiny_S), (64, probityref01_mul_S)]

noncomputable def probityref01_Quo_C : Code := (Tryz.f36.body).getD .skip

noncomputable def probityref01_Quo_A (Kv : VW) : Pw.A :=
  (A.seq (A.reg (RA.run (RA.run (RA.run (RA.run RA.done)))))
   (A.seq (A.seq (A.reg (RA.run (RA.run (RA.run (RA.run (RA.run (RA.spl 10 (RA.skp (RA.skp (RA.skp (RA.run RA.done)))) (RA.run (RA.run (RA.run (RA.run RA.done)))))))))))
   (A.cond (A.cut [4] (probityref01_Quo_P0 Kv) (A.seq (A.reg (RA.run (RA.run (RA.run RA.done))))
   A.leaf))
   A.leaf))
   (A.seq (A.seq (A.reg (RA.run (RA.run (RA.run RA.done))))
   (A.cond (A.seq (A.reg (RA.run (RA.run (RA.run (RA.run (RA.run (RA.run (RA.run (RA.run (RA.run (RA.run (RA.run (RA.run (RA.run RA.done))))))))))))))
   A.leaf)
   A.leaf))
   (A.seq (A.drw (DA.pur 0 (DA.pur 1 (DA.pur 3 (DA.pur 4 (DA.pur 7 (DA.pur 8 (DA.pur 10 (DA.pur 11 (DA.eff 2 (DA.eff 5 (DA.eff 6 (DA.eff 9 (DA.eff 12 (DA.eff 13 (DA.eff 14 (DA.pur 15 (DA.pur 16 (DA.eff 17 (DA.pur 18 DA.done))))))))))))))))))))
   A.leaf))))

noncomputable def probityref01_Quo_O (Kv : VW) : List Ob := (obs Tryz.prog probityref01_Quo_E 47 (probityref01_Quo_A Kv) probityref01_Quo_C (fun _ => retQ Tryz.prog Tryz.f36.results Kv))

theorem probityref01_Quo_e (Kv : VW) (a_0_0 : Int) (a_0_1 : Int) (b_1_0 : Int) (b_1_1 : Int) (w : World) : probityref01_Quo_sd a_0_0 a_0_1 b_1_0 b_1_1 (fun (r0_0 : Int) (r0_1 : Int) (r1 : Bool) (w' : World) => Kv (Value.tuple #[(Value.agg #[(Value.int .i64 r0_0), (Value.int .i64 r0_1)]), (Value.bool r1)]) w') w = W Tryz.prog probityref01_Quo_E 47 (probityref01_Quo_A Kv) probityref01_Quo_C [] (retQ Tryz.prog Tryz.f36.results Kv) [] (startS [(Value.agg #[(Value.int .i64 a_0_0), (Value.int .i64 a_0_1)]), (Value.agg #[(Value.int .i64 b_1_0), (Value.int .i64 b_1_1)])]) w := by kernel_rfl

theorem probityref01_Quo_e0 (Kv : VW) (ρ : Rho) (t_4 : Addr) (w : World) : probityref01_Quo_k0d t_4  (fun (r0_0 : Int) (r0_1 : Int) (r1 : Bool) (w' : World) => Kv (Value.tuple #[(Value.agg #[(Value.int .i64 r0_0), (Value.int .i64 r0_1)]), (Value.bool r1)]) w') w = goalAt Tryz.prog probityref01_Quo_E 47 (probityref01_Quo_O Kv) 0 (ρ) [(Value.pointer (some t_4))] w := by kernel_rfl

theorem probityref01_Quo_q0 (Kv : VW) (ρ : Rho) (vs : List Value) (w : World) : labAt (probityref01_Quo_O Kv) 0 ρ vs w = probityref01_Quo_P0 Kv ρ vs w := by kernel_rfl

theorem probityref01_Quo_h0 (Kv : VW) : holdsAt Tryz.prog probityref01_Quo_E 47 (probityref01_Quo_O Kv) 0 := holdsAt_cut (.inl (by kernel_rfl)) (fun ρ vs w h => by
  rw [probityref01_Quo_q0] at h
  unfold probityref01_Quo_P0 at h
  split at h
  · rw [← probityref01_Quo_e0]; exact h.out
  · exact h.elim)

theorem probityref01_Quo_n (Kv : VW) : obAt (probityref01_Quo_O Kv) 1 = none := by kernel_rfl

theorem probityref01_Quo_h (Kv : VW) : ∀ k, holdsAt Tryz.prog probityref01_Quo_E 47 (probityref01_Quo_O Kv) k := fun k => match k with
  | 0 => probityref01_Quo_h0 Kv
  | _k + 1 => holdsAt_ge (probityref01_Quo_n Kv) (Nat.le_add_left _ _)

theorem probityref01_Quo_ok : Sound Tryz.prog 36 probityref01_Quo_S := ⟨Tryz.call36, fun vs w Kv h => by
  unfold probityref01_Quo_S at h
  split at h
  · have h := h.out
    rw [probityref01_Quo_e] at h
    exact calls_sound (Γ := probityref01_Quo_E) progMixed ⟨.inl probityref01_Of_ok, .inl probityref01_quick_ok, .inl probityref01_lowest_ok, .inl probityref01_of_ok, .inl probityref01_both_ok, .inl probityref01_tiny_ok, .inl probityref01_mul_ok, trivial⟩ Tryz.func36 (code := probityref01_Quo_C) (by kernel_rfl) (probityref01_Quo_A Kv) Kv (holds_all (probityref01_Quo_h Kv)) (Nat.le_of_ble_eq_true (by kernel_rfl)) h
  · exact h.elim⟩

/-! probityref01_Cmp -/
def probityref01_Cmp_k1d (d_6 : Addr)  (K : Int → World → Prop) (w : World) : Prop :=
  ∃ x94 : Sl, w.cell? (d_6.add 1) = some (Value.slice x94.p x94.l x94.c) ∧ probityref01_trim_sh x94 (fun (r96 : Sl) (w95 : World) => cnd ((r96.l : Int) == (0 : Int))
    (K (0 : Int) w95)
    (∃ x97 : Bool, w95.cell? d_6 = some (Value.bool x97) ∧ cnd x97
    (K (-1 : Int) w95)
    (K (1 : Int) w95))) w
structure probityref01_Cmp_k1 (d_6 : Addr)  (K : Int → World → Prop) (w : World) : Prop where
  out : probityref01_Cmp_k1d d_6 K w

def probityref01_Cmp_k0d (a_2 : Addr) (b_3 : Addr) (x_5 : Addr)  (K : Int → World → Prop) (w : World) : Prop :=
  ∃ x43 : Bool, w.cell? x_5 = some (Value.bool x43) ∧ wrOk w x_5 ∧ 
  (let w44 : World := w.setCell x_5 (Value.bool (!x43))
  let w45 : World := w44.drew
  ∃ S46 : World → Prop, S46 w45 ∧ ∃ x47 : Int, (∀ w' : World, S46 w' → w'.cell? a_2 = some (Value.int .i64 x47)) ∧ ∃ x48 : Int, (∀ w' : World, S46 w' → w'.cell? (b_3.add 1) = some (Value.int .i64 x48)) ∧ ∃ x49 : Bool, (∀ w' : World, S46 w' → w'.cell? x_5 = some (Value.bool x49)) ∧ ∃ x50 : Sl, (∀ w' : World, S46 w' → w'.cell? (x_5.add 1) = some (Value.slice x50.p x50.l x50.c)) ∧ (probityref01_of_sh x47 (fun (r52_0 : Bool) (r52_1 : Sl) (w51 : World) => S46 w51 ∧ (probityref01_of_sh x48 (fun (r54_0 : Bool) (r54_1 : Sl) (w53 : World) => S46 w53 ∧ (probityref01_mul_sh r52_0 r52_1 r54_0 r54_1 (fun (r56_0 : Bool) (r56_1 : Sl) (w55 : World) => S46 w55 ∧ (probityref01_add_sh r56_0 r56_1 x49 x50 (fun (r58_0 : Bool) (r58_1 : Sl) (w57 : World) => S46 w57 ∧ let w59 : World := w57.alloc (Obj.cells #[(Value.bool false), (Value.slice none 0 0)] 74)
  S46 w59 ∧ wrOk w59 (Addr.mk w57.heap.size 0 none) ∧ 
  (let w60 : World := w59.setCell (Addr.mk w57.heap.size 0 none) (Value.bool r58_0)
  wrOk w60 (Addr.mk w57.heap.size 1 none) ∧ 
  (let w61 : World := w60.setCell (Addr.mk w57.heap.size 1 none) (Value.slice r58_1.p r58_1.l r58_1.c)
  probityref01_Cmp_k1 (Addr.mk w57.heap.size 0 none) K w61))) w55)
    ∧ (let w62 : World := w55.alloc (Obj.cells #[(Value.bool false), (Value.slice none 0 0)] 74)
  S46 w62 ∧ probityref01_add_sh r56_0 r56_1 x49 x50 (fun (r64_0 : Bool) (r64_1 : Sl) (w63 : World) => S46 w63 ∧ wrOk w63 (Addr.mk w55.heap.size 0 none) ∧ 
  (let w65 : World := w63.setCell (Addr.mk w55.heap.size 0 none) (Value.bool r64_0)
  wrOk w65 (Addr.mk w55.heap.size 1 none) ∧ 
  (let w66 : World := w65.setCell (Addr.mk w55.heap.size 1 none) (Value.slice r64_1.p r64_1.l r64_1.c)
  probityref01_Cmp_k1 (Addr.mk w55.heap.size 0 none) K w66))) w62)) w53)
    ∧ (let w67 : World := w53.alloc (Obj.cells #[(Value.bool false), (Value.slice none 0 0)] 74)
  S46 w67 ∧ probityref01_mul_sh r52_0 r52_1 r54_0 r54_1 (fun (r69_0 : Bool) (r69_1 : Sl) (w68 : World) => S46 w68 ∧ probityref01_add_sh r69_0 r69_1 x49 x50 (fun (r71_0 : Bool) (r71_1 : Sl) (w70 : World) => S46 w70 ∧ wrOk w70 (Addr.mk w53.heap.size 0 none) ∧ 
  (let w72 : World := w70.setCell (Addr.mk w53.heap.size 0 none) (Value.bool r71_0)
  wrOk w72 (Addr.mk w53.heap.size 1 none) ∧ 
  (let w73 : World := w72.setCell (Addr.mk w53.heap.size 1 none) (Value.slice r71_1.p r71_1.l r71_1.c)
  probityref01_Cmp_k1 (Addr.mk w53.heap.size 0 none) K w73))) w68) w67)) w51)
    ∧ (let w74 : World := w51.alloc (Obj.cells #[(Value.bool false), (Value.slice none 0 0)] 74)
  S46 w74 ∧ probityref01_of_sh x48 (fun (r76_0 : Bool) (r76_1 : Sl) (w75 : World) => S46 w75 ∧ probityref01_mul_sh r52_0 r52_1 r76_0 r76_1 (fun (r78_0 : Bool) (r78_1 : Sl) (w77 : World) => S46 w77 ∧ probityref01_add_sh r78_0 r78_1 x49 x50 (fun (r80_0 : Bool) (r80_1 : Sl) (w79 : World) => S46 w79 ∧ wrOk w79 (Addr.mk w51.heap.size 0 none) ∧ 
  (let w81 : World := w79.setCell (Addr.mk w51.heap.size 0 none) (Value.bool r80_0)
  wrOk w81 (Addr.mk w51.heap.size 1 none) ∧ 
  (let w82 : World := w81.setCell (Addr.mk w51.heap.size 1 none) (Value.slice r80_1.p r80_1.l r80_1.c)
  probityref01_Cmp_k1 (Addr.mk w51.heap.size 0 none) K w82))) w77) w75) w74)) w45)
    ∧ (let w83 : World := w45.alloc (Obj.cells #[(Value.bool false), (Value.slice none 0 0)] 74)
  S46 w83 ∧ probityref01_of_sh x47 (fun (r85_0 : Bool) (r85_1 : Sl) (w84 : World) => S46 w84 ∧ probityref01_of_sh x48 (fun (r87_0 : Bool) (r87_1 : Sl) (w86 : World) => S46 w86 ∧ probityref01_mul_sh r85_0 r85_1 r87_0 r87_1 (fun (r89_0 : Bool) (r89_1 : Sl) (w88 : World) => S46 w88 ∧ probityref01_add_sh r89_0 r89_1 x49 x50 (fun (r91_0 : Bool) (r91_1 : Sl) (w90 : World) => S46 w90 ∧ wrOk w90 (Addr.mk w45.heap.size 0 none) ∧ 
  (let w92 : World := w90.setCell (Addr.mk w45.heap.size 0 none) (Value.bool r91_0)
  wrOk w92 (Addr.mk w45.heap.size 1 none) ∧ 
  (let w93 : World := w92.setCell (Addr.mk w45.heap.size 1 none) (Value.slice r91_1.p r91_1.l r91_1.c)
  probityref01_Cmp_k1 (Addr.mk w45.heap.size 0 none) K w93))) w88) w86) w84) w83))
structure probityref01_Cmp_k0 (a_2 : Addr) (b_3 : Addr) (x_5 : Addr)  (K : Int → World → Prop) (w : World) : Prop where
  out : probityref01_Cmp_k0d a_2 b_3 x_5 K w

def probityref01_Cmp_sd (a_0_0 : Int) (a_0_1 : Int) (b_1_0 : Int) (b_1_1 : Int) (K : Int → World → Prop) (w : World) : Prop :=
  let w1 : World := w.alloc (Obj.cells #[(Value.int .i64 a_0_0), (Value.int .i64 a_0_1)] 26)
  let w2 : World := w1.alloc (Obj.cells #[(Value.int .i64 b_1_0), (Value.int .i64 b_1_1)] 26)
  ∃ x3 : Int, w2.cell? (Addr.mk w.heap.size 0 none) = some (Value.int .i64 x3) ∧ ∃ x4 : Int, w2.cell? (Addr.mk w.heap.size 1 none) = some (Value.int .i64 x4) ∧ ∃ x5 : Int, w2.cell? (Addr.mk w1.heap.size 0 none) = some (Value.int .i64 x5) ∧ ∃ x6 : Int, w2.cell? (Addr.mk w1.heap.size 1 none) = some (Value.int .i64 x6) ∧ probityref01_both_sh x3 x4 x5 x6 (fun (r8 : Bool) (w7 : World) => cnd (!r8)
    (K (0 : Int) w7)
    (let w9 : World := w7.drew
  ∃ S10 : World → Prop, S10 w9 ∧ ∃ x11 : Int, (∀ w' : World, S10 w' → w'.cell? (Addr.mk w1.heap.size 0 none) = some (Value.int .i64 x11)) ∧ ∃ x12 : Int, (∀ w' : World, S10 w' → w'.cell? (Addr.mk w.heap.size 1 none) = some (Value.int .i64 x12)) ∧ (probityref01_of_sh x11 (fun (r14_0 : Bool) (r14_1 : Sl) (w13 : World) => S10 w13 ∧ (probityref01_of_sh x12 (fun (r16_0 : Bool) (r16_1 : Sl) (w15 : World) => S10 w15 ∧ (probityref01_mul_sh r14_0 r14_1 r16_0 r16_1 (fun (r18_0 : Bool) (r18_1 : Sl) (w17 : World) => S10 w17 ∧ let w19 : World := w17.alloc (Obj.cells #[(Value.bool false), (Value.slice none 0 0)] 74)
  S10 w19 ∧ wrOk w19 (Addr.mk w17.heap.size 0 none) ∧ 
  (let w20 : World := w19.setCell (Addr.mk w17.heap.size 0 none) (Value.bool r18_0)
  wrOk w20 (Addr.mk w17.heap.size 1 none) ∧ 
  (let w21 : World := w20.setCell (Addr.mk w17.heap.size 1 none) (Value.slice r18_1.p r18_1.l r18_1.c)
  probityref01_Cmp_k0 (Addr.mk w.heap.size 0 none) (Addr.mk w1.heap.size 0 none) (Addr.mk w17.heap.size 0 none) K w21))) w15)
    ∧ (let w22 : World := w15.alloc (Obj.cells #[(Value.bool false), (Value.slice none 0 0)] 74)
  S10 w22 ∧ probityref01_mul_sh r14_0 r14_1 r16_0 r16_1 (fun (r24_0 : Bool) (r24_1 : Sl) (w23 : World) => S10 w23 ∧ wrOk w23 (Addr.mk w15.heap.size 0 none) ∧ 
  (let w25 : World := w23.setCell (Addr.mk w15.heap.size 0 none) (Value.bool r24_0)
  wrOk w25 (Addr.mk w15.heap.size 1 none) ∧ 
  (let w26 : World := w25.setCell (Addr.mk w15.heap.size 1 none) (Value.slice r24_1.p r24_1.l r24_1.c)
  probityref01_Cmp_k0 (Addr.mk w.heap.size 0 none) (Addr.mk w1.heap.size 0 none) (Addr.mk w15.heap.size 0 none) K w26))) w22)) w13)
    ∧ (let w27 : World := w13.alloc (Obj.cells #[(Value.bool false), (Value.slice none 0 0)] 74)
  S10 w27 ∧ probityref01_of_sh x12 (fun (r29_0 : Bool) (r29_1 : Sl) (w28 : World) => S10 w28 ∧ probityref01_mul_sh r14_0 r14_1 r29_0 r29_1 (fun (r31_0 : Bool) (r31_1 : Sl) (w30 : World) => S10 w30 ∧ wrOk w30 (Addr.mk w13.heap.size 0 none) ∧ 
  (let w32 : World := w30.setCell (Addr.mk w13.heap.size 0 none) (Value.bool r31_0)
  wrOk w32 (Addr.mk w13.heap.size 1 none) ∧ 
  (let w33 : World := w32.setCell (Addr.mk w13.heap.size 1 none) (Value.slice r31_1.p r31_1.l r31_1.c)
  probityref01_Cmp_k0 (Addr.mk w.heap.size 0 none) (Addr.mk w1.heap.size 0 none) (Addr.mk w13.heap.size 0 none) K w33))) w28) w27)) w9)
    ∧ (let w34 : World := w9.alloc (Obj.cells #[(Value.bool false), (Value.slice none 0 0)] 74)
  S10 w34 ∧ probityref01_of_sh x11 (fun (r36_0 : Bool) (r36_1 : Sl) (w35 : World) => S10 w35 ∧ probityref01_of_sh x12 (fun (r38_0 : Bool) (r38_1 : Sl) (w37 : World) => S10 w37 ∧ probityref01_mul_sh r36_0 r36_1 r38_0 r38_1 (fun (r40_0 : Bool) (r40_1 : Sl) (w39 : World) => S10 w39 ∧ wrOk w39 (Addr.mk w9.heap.size 0 none) ∧ 
  (let w41 : World := w39.setCell (Addr.mk w9.heap.size 0 none) (Value.bool r40_0)
  wrOk w41 (Addr.mk w9.heap.size 1 none) ∧ 
  (let w42 : World := w41.setCell (Addr.mk w9.heap.size 1 none) (Value.slice r40_1.p r40_1.l r40_1.c)
  probityref01_Cmp_k0 (Addr.mk w.heap.size 0 none) (Addr.mk w1.heap.size 0 none) (Addr.mk w9.heap.size 0 none) K w42))) w37) w35) w34))) w2

structure probityref01_Cmp_sh (a_0_0 : Int) (a_0_1 : Int) (b_1_0 : Int) (b_1_1 : Int) (K : Int → World → Prop) (w : World) : Prop where
  out : probityref01_Cmp_sd a_0_0 a_0_1 b_1_0 b_1_1 K w

def probityref01_Cmp_P0 (Kv : VW) (ρ : Rho) (vs : List Value) (w : World) : Prop :=
  match ρ, vs with
  | _, [.pointer (some a_2), .pointer (some b_3), .pointer (some x_5)] => probityref01_Cmp_k0 a_2 b_3 x_5  (fun (r0 : Int) (w' : World) => Kv (Value.int .i64 r0) w') w
  | _, _ => False

def probityref01_Cmp_P1 (Kv : VW) (ρ : Rho) (vs : List Value) (w : World) : Prop :=
  match ρ, vs with
  | _, [.pointer (some d_6)] => probityref01_Cmp_k1 d_6  (fun (r0 : Int) (w' : World) => Kv (Value.int .i64 r0) w') w
  | _, _ => False

noncomputable def probityref01_Cmp_S : Pw.Spec := fun vs w Kv =>
  match vs with
  | [.agg ⟨[.int .i64 a_0_0, .int .i64 a_0_1]⟩, .agg ⟨[.int .i64 b_1_0, .int .i64 b_1_1]⟩] => probityref01_Cmp_sh a_0_0 a_0_1 b_1_0 b_1_1 (fun (r0 : Int) (w' : World) => Kv (Value.int .i64 r0) w') w
  | _ => False

noncomputable def probityref01_Cmp_E : Pw.Env := [(54, probityref01_of_S), (61, probityref01_both_S), (63, probityref01_add_S), (64, probityref01_mul_S), (66, probityref01_trim_S)]

noncomputable def probityref01_Cmp_C : Code := (Tryz.f37.body).getD .skip

noncomputable def probityref01_Cmp_A (Kv : VW) : Pw.A :=
  (A.seq (A.reg (RA.run (RA.run (RA.run RA.done))))
   (A.seq (A.seq (A.reg (RA.run (RA.run (RA.run (RA.run RA.done)))))
   (A.cond (A.seq (A.reg (RA.run RA.done))
   A.leaf)
   A.leaf))
   (A.seq (A.drw (DA.pur 0 (DA.pur 1 (DA.pur 3 (DA.pur 4 (DA.two 2 (DA.two 5 (DA.two 6 (DA.eff 7 (DA.eff 8 DA.done)) 7 (DA.eff 6 (DA.eff 8 DA.done))) 7 (DA.eff 5 (DA.eff 6 (DA.eff 8 DA.done)))) 7 (DA.eff 2 (DA.eff 5 (DA.eff 6 (DA.eff 8 DA.done))))))))))
   (A.cut [2, 3, 5] (probityref01_Cmp_P0 Kv) (A.seq (A.reg (RA.run (RA.run (RA.run (RA.run (RA.run RA.done))))))
   (A.seq (A.drw (DA.pur 0 (DA.pur 1 (DA.pur 3 (DA.pur 4 (DA.pur 7 (DA.two 2 (DA.two 5 (DA.two 6 (DA.two 8 (DA.eff 9 (DA.eff 10 DA.done)) 9 (DA.eff 8 (DA.eff 10 DA.done))) 9 (DA.eff 6 (DA.eff 8 (DA.eff 10 DA.done)))) 9 (DA.eff 5 (DA.eff 6 (DA.eff 8 (DA.eff 10 DA.done))))) 9 (DA.eff 2 (DA.eff 5 (DA.eff 6 (DA.eff 8 (DA.eff 10 DA.done))))))))))))
   (A.cut [6] (probityref01_Cmp_P1 Kv) (A.seq (A.blk (A.seq (A.reg (RA.run (RA.run (RA.run (RA.run (RA.run (RA.run RA.done)))))))
   (A.cond (A.seq (A.reg (RA.run RA.done))
   A.leaf)
   (A.seq (A.reg (RA.run (RA.run (RA.run RA.done))))
   (A.cond (A.seq (A.reg (RA.run RA.done))
   A.leaf)
   A.leaf)))))
   (A.seq (A.reg (RA.run RA.done))
   A.leaf)))))))))

noncomputable def probityref01_Cmp_O (Kv : VW) : List Ob := (obs Tryz.prog probityref01_Cmp_E 40 (probityref01_Cmp_A Kv) probityref01_Cmp_C (fun _ => retQ Tryz.prog Tryz.f37.results Kv))

theorem probityref01_Cmp_e (Kv : VW) (a_0_0 : Int) (a_0_1 : Int) (b_1_0 : Int) (b_1_1 : Int) (w : World) : probityref01_Cmp_sd a_0_0 a_0_1 b_1_0 b_1_1 (fun (r0 : Int) (w' : World) => Kv (Value.int .i64 r0) w') w = W Tryz.prog probityref01_Cmp_E 40 (probityref01_Cmp_A Kv) probityref01_Cmp_C [] (retQ Tryz.prog Tryz.f37.results Kv) [] (startS [(Value.agg #[(Value.int .i64 a_0_0), (Value.int .i64 a_0_1)]), (Value.agg #[(Value.int .i64 b_1_0), (Value.int .i64 b_1_1)])]) w := by kernel_rfl

theorem probityref01_Cmp_e0 (Kv : VW) (ρ : Rho) (a_2 : Addr) (b_3 : Addr) (x_5 : Addr) (w : World) : probityref01_Cmp_k0d a_2 b_3 x_5  (fun (r0 : Int) (w' : World) => Kv (Value.int .i64 r0) w') w = goalAt Tryz.prog probityref01_Cmp_E 40 (probityref01_Cmp_O Kv) 0 (ρ) [(Value.pointer (some a_2)), (Value.pointer (some b_3)), (Value.pointer (some x_5))] w := by kernel_rfl

theorem probityref01_Cmp_q0 (Kv : VW) (ρ : Rho) (vs : List Value) (w : World) : labAt (probityref01_Cmp_O Kv) 0 ρ vs w = probityref01_Cmp_P0 Kv ρ vs w := by kernel_rfl

theorem probityref01_Cmp_h0 (Kv : VW) : holdsAt Tryz.prog probityref01_Cmp_E 40 (probityref01_Cmp_O Kv) 0 := holdsAt_cut (.inl (by kernel_rfl)) (fun ρ vs w h => by
  rw [probityref01_Cmp_q0] at h
  unfold probityref01_Cmp_P0 at h
  split at h
  · rw [← probityref01_Cmp_e0]; exact h.out
  · exact h.elim)

theorem probityref01_Cmp_e1 (Kv : VW) (ρ : Rho) (d_6 : Addr) (w : World) : probityref01_Cmp_k1d d_6  (fun (r0 : Int) (w' : World) => Kv (Value.int .i64 r0) w') w = goalAt Tryz.prog probityref01_Cmp_E 40 (probityref01_Cmp_O Kv) 1 (ρ) [(Value.pointer (some d_6))] w := by kernel_rfl

theorem probityref01_Cmp_q1 (Kv : VW) (ρ : Rho) (vs : List Value) (w : World) : labAt (probityref01_Cmp_O Kv) 1 ρ vs w = probityref01_Cmp_P1 Kv ρ vs w := by kernel_rfl

theorem probityref01_Cmp_h1 (Kv : VW) : holdsAt Tryz.prog probityref01_Cmp_E 40 (probityref01_Cmp_O Kv) 1 := holdsAt_cut (.inl (by kernel_rfl)) (fun ρ vs w h => by
  rw [probityref01_Cmp_q1] at h
  unfold probityref01_Cmp_P1 at h
  split at h
  · rw [← probityref01_Cmp_e1]; exact h.out
  · exact h.elim)

theorem probityref01_Cmp_n (Kv : VW) : obAt (probityref01_Cmp_O Kv) 2 = none := by kernel_rfl

theorem probityref01_Cmp_h (Kv : VW) : ∀ k, holdsAt Tryz.prog probityref01_Cmp_E 40 (probityref01_Cmp_O Kv) k := fun k => match k with
  | 0 => probityref01_Cmp_h0 Kv
  | 1 => probityref01_Cmp_h1 Kv
  | _k + 2 => holdsAt_ge (probityref01_Cmp_n Kv) (Nat.le_add_left _ _)

theorem probityref01_Cmp_ok : Sound Tryz.prog 37 probityref01_Cmp_S := ⟨Tryz.call37, fun vs w Kv h => by
  unfold probityref01_Cmp_S at h
  split at h
  · have h := h.out
    rw [probityref01_Cmp_e] at h
    exact calls_sound (Γ := probityref01_Cmp_E) progMixed ⟨.inl probityref01_of_ok, .inl probityref01_both_ok, .inl probityref01_add_ok, .inl probityref01_mul_ok, .inl probityref01_trim_ok, trivial⟩ Tryz.func37 (code := probityref01_Cmp_C) (by kernel_rfl) (probityref01_Cmp_A Kv) Kv (holds_all (probityref01_Cmp_h Kv)) (Nat.le_of_ble_eq_true (by kernel_rfl)) h
  · exact h.elim⟩

/-! probityref01_Floor -/
def probityref01_Floor_sd (a_0_0 : Int) (a_0_1 : Int) (K : Int → World → Prop) (w : World) : Prop :=
  let w1 : World := w.alloc (Obj.cells #[(Value.int .i64 a_0_0), (Value.int .i64 a_0_1)] 26)
  ∃ x2 : Int, w1.cell? (Addr.mk w.heap.size 0 none) = some (Value.int .i64 x2) ∧ ∃ x3 : Int, w1.cell? (Addr.mk w.heap.size 1 none) = some (Value.int .i64 x3) ∧ probityref01_Right_sh x2 x3 (fun (r5 : Bool) (w4 : World) => cnd (!r5)
    (K (0 : Int) w4)
    (∃ x6 : Int, w4.cell? (Addr.mk w.heap.size 0 none) = some (Value.int .i64 x6) ∧ ∃ x7 : Int, w4.cell? (Addr.mk w.heap.size 1 none) = some (Value.int .i64 x7) ∧ x7 ≠ 0 ∧ inR .i64 (Int.tdiv x6 x7) ∧ ∃ x8 : Int, w4.cell? (Addr.mk w.heap.size 0 none) = some (Value.int .i64 x8) ∧ ∃ x9 : Int, w4.cell? (Addr.mk w.heap.size 1 none) = some (Value.int .i64 x9) ∧ x9 ≠ 0 ∧ cnd (decide ((Int.tmod x8 x9) < (0 : Int)))
    (inR .i64 ((Int.tdiv x6 x7) - (1 : Int)) ∧ K ((Int.tdiv x6 x7) - (1 : Int)) w4)
    (K (Int.tdiv x6 x7) w4))) w1

structure probityref01_Floor_sh (a_0_0 : Int) (a_0_1 : Int) (K : Int → World → Prop) (w : World) : Prop where
  out : probityref01_Floor_sd a_0_0 a_0_1 K w

noncomputable def probityref01_Floor_S : Pw.Spec := fun vs w Kv =>
  match vs with
  | [.agg ⟨[.int .i64 a_0_0, .int .i64 a_0_1]⟩] => probityref01_Floor_sh a_0_0 a_0_1 (fun (r0 : Int) (w' : World) => Kv (Value.int .i64 r0) w') w
  | _ => False

noncomputable def probityref01_Floor_E : Pw.Env := [(38, probityref01_Right_S)]

noncomputable def probityref01_Floor_C : Code := (Tryz.f39.body).getD .skip

noncomputable def probityref01_Floor_A (_Kv : VW) : Pw.A :=
  (A.seq (A.reg (RA.run (RA.run RA.done)))
   (A.seq (A.reg (RA.run (RA.run (RA.run RA.done))))
   (A.seq (A.seq (A.reg (RA.run (RA.run RA.done)))
   (A.cond (A.seq (A.reg (RA.run RA.done))
   A.leaf)
   A.leaf))
   (A.seq (A.reg (RA.run (RA.run (RA.run (RA.run (RA.run (RA.run RA.done)))))))
   (A.seq (A.seq (A.reg (RA.run (RA.run (RA.run (RA.run (RA.run (RA.run RA.done)))))))
   (A.cond (A.reg (RA.run (RA.run (RA.run RA.done))))
   A.leaf))
   (A.seq (A.reg (RA.run (RA.run RA.done)))
   A.leaf))))))

noncomputable def probityref01_Floor_O (Kv : VW) : List Ob := (obs Tryz.prog probityref01_Floor_E 23 (probityref01_Floor_A Kv) probityref01_Floor_C (fun _ => retQ Tryz.prog Tryz.f39.results Kv))

theorem probityref01_Floor_e (Kv : VW) (a_0_0 : Int) (a_0_1 : Int) (w : World) : probityref01_Floor_sd a_0_0 a_0_1 (fun (r0 : Int) (w' : World) => Kv (Value.int .i64 r0) w') w = W Tryz.prog probityref01_Floor_E 23 (probityref01_Floor_A Kv) probityref01_Floor_C [] (retQ Tryz.prog Tryz.f39.results Kv) [] (startS [(Value.agg #[(Value.int .i64 a_0_0), (Value.int .i64 a_0_1)])]) w := by kernel_rfl

theorem probityref01_Floor_n (Kv : VW) : obAt (probityref01_Floor_O Kv) 0 = none := by kernel_rfl

theorem probityref01_Floor_h (Kv : VW) : ∀ k, holdsAt Tryz.prog probityref01_Floor_E 23 (probityref01_Floor_O Kv) k := fun _ => holdsAt_ge (probityref01_Floor_n Kv) (Nat.zero_le _)

theorem probityref01_Floor_ok : Sound Tryz.prog 39 probityref01_Floor_S := ⟨Tryz.call39, fun vs w Kv h => by
  unfold probityref01_Floor_S at h
  split at h
  · have h := h.out
    rw [probityref01_Floor_e] at h
    exact calls_sound (Γ := probityref01_Floor_E) progMixed ⟨.inl probityref01_Right_ok, trivial⟩ Tryz.func39 (code := probityref01_Floor_C) (by kernel_rfl) (probityref01_Floor_A Kv) Kv (holds_all (probityref01_Floor_h Kv)) (Nat.le_of_ble_eq_true (by kernel_rfl)) h
  · exact h.elim⟩

/-! probityref01_decimal -/
structure probityref01_decimal_sh (n_0 : Int) (K : ByteArray → World → Prop) (w : World) : Prop where
  out : Calls Tryz.prog 60 #[(Value.int .i64 n_0)] w fun e w' => ∃ r0 : ByteArray, e = .returned (Value.string r0) ∧ K r0 w'

noncomputable def probityref01_decimal_S : Pw.Spec := fun vs w Kv =>
  match vs with
  | [.int .i64 n_0] => probityref01_decimal_sh n_0 (fun (r0 : ByteArray) (w' : World) => Kv (Value.string r0) w') w
  | _ => False

theorem probityref01_decimal_okr : Sound Tryz.prog 60 probityref01_decimal_S := ⟨Tryz.call60, fun vs w Kv h => by
  unfold probityref01_decimal_S at h
  split at h
  · exact h.out.mono fun e w' he => by
      obtain ⟨_, he, hk⟩ := he
      exact ⟨_, he, hk⟩
  · exact h.elim⟩

def probityref01_decimal_k0d (n_0 : Int)  (K : ByteArray → World → Prop) (w : World) : Prop :=
  cnd (decide (n_0 < (0 : Int)))
    ((10 : Int) ≠ 0 ∧ inR .i64 (Int.tdiv n_0 (10 : Int)) ∧ probityref01_decimal_sh (Int.tdiv n_0 (10 : Int)) (fun (r4 : ByteArray) (w3 : World) => (10 : Int) ≠ 0 ∧ inR .i64 (-(Int.tmod n_0 (10 : Int))) ∧ probityref01_decimal_sh (-(Int.tmod n_0 (10 : Int))) (fun (r6 : ByteArray) (w5 : World) => (((r4.size + r6.size : Nat) : Int) ≤ maxI) ∧ K (r4 ++ r6) w5) w3) w)
    (cnd (decide (n_0 < (10 : Int)))
    (inR .i64 ((48 : Int) + n_0) ∧ inR .u8 ((48 : Int) + n_0) ∧ let w7 : World := w.alloc (Obj.cells #[(Value.int .u8 ((48 : Int) + n_0))] 5)
  btsS (Sl.mk (some (Addr.mk w.heap.size 0 none)) 1 1) w7 fun (s8 : ByteArray) => K s8 w7)
    ((10 : Int) ≠ 0 ∧ inR .i64 (Int.tdiv n_0 (10 : Int)) ∧ probityref01_decimal_sh (Int.tdiv n_0 (10 : Int)) (fun (r10 : ByteArray) (w9 : World) => (10 : Int) ≠ 0 ∧ probityref01_decimal_sh (Int.tmod n_0 (10 : Int)) (fun (r12 : ByteArray) (w11 : World) => (((r10.size + r12.size : Nat) : Int) ≤ maxI) ∧ K (r10 ++ r12) w11) w9) w))
structure probityref01_decimal_k0 (n_0 : Int)  (K : ByteArray → World → Prop) (w : World) : Prop where
  out : probityref01_decimal_k0d n_0 K w

def probityref01_decimal_sd (n_0 : Int) (K : ByteArray → World → Prop) (w : World) : Prop :=
  cnd (decide (n_0 < (0 : Int)))
    (cnd (decide (n_0 > (-10 : Int)))
    (inR .i64 (-n_0) ∧ probityref01_decimal_sh (-n_0) (fun (r2 : ByteArray) (w1 : World) => ((((str [45]).size + r2.size : Nat) : Int) ≤ maxI) ∧ K ((str [45]) ++ r2) w1) w)
    (probityref01_decimal_k0 n_0 K w))
    (probityref01_decimal_k0 n_0 K w)

def probityref01_decimal_P0 (Kv : VW) (ρ : Rho) (vs : List Value) (w : World) : Prop :=
  match ρ, vs with
  | _, [.int .i64 n_0] => probityref01_decimal_k0 n_0  (fun (r0 : ByteArray) (w' : World) => Kv (Value.string r0) w') w
  | _, _ => False

noncomputable def probityref01_decimal_E : Pw.Env := [(60, probityref01_decimal_S)]

noncomputable def probityref01_decimal_C : Code := (Tryz.f60.body).getD .skip

noncomputable def probityref01_decimal_A (Kv : VW) : Pw.A :=
  (A.seq (A.reg (RA.run RA.done))
   (A.seq (A.seq (A.reg (RA.run (RA.run (RA.run (RA.spl 5 (RA.run (RA.run (RA.run RA.done))) (RA.skp (RA.skp (RA.run RA.done))))))))
   (A.cond (A.seq (A.reg (RA.run (RA.run (RA.run (RA.run (RA.run RA.done))))))
   A.leaf)
   A.leaf))
   (A.cut [0] (probityref01_decimal_P0 Kv) (A.seq (A.seq (A.reg (RA.run (RA.run RA.done)))
   (A.cond (A.seq (A.reg (RA.run (RA.run (RA.run (RA.run (RA.run (RA.run (RA.run (RA.run (RA.run RA.done))))))))))
   A.leaf)
   A.leaf))
   (A.seq (A.seq (A.reg (RA.run (RA.run RA.done)))
   (A.cond (A.seq (A.reg (RA.run (RA.run (RA.run (RA.run (RA.run (RA.run RA.done)))))))
   A.leaf)
   A.leaf))
   (A.seq (A.reg (RA.run (RA.run (RA.run (RA.run (RA.run (RA.run (RA.run (RA.run RA.done)))))))))
   A.leaf))))))

noncomputable def probityref01_decimal_O (Kv : VW) : List Ob := (obs Tryz.prog probityref01_decimal_E 37 (probityref01_decimal_A Kv) probityref01_decimal_C (fun _ => retQ Tryz.prog Tryz.f60.results Kv))

theorem probityref01_decimal_e (Kv : VW) (n_0 : Int) (w : World) : probityref01_decimal_sd n_0 (fun (r0 : ByteArray) (w' : World) => Kv (Value.string r0) w') w = W Tryz.prog probityref01_decimal_E 37 (probityref01_decimal_A Kv) probityref01_decimal_C [] (retQ Tryz.prog Tryz.f60.results Kv) [] (startS [(Value.int .i64 n_0)]) w := by kernel_rfl

theorem probityref01_decimal_e0 (Kv : VW) (ρ : Rho) (n_0 : Int) (w : World) : probityref01_decimal_k0d n_0  (fun (r0 : ByteArray) (w' : World) => Kv (Value.string r0) w') w = goalAt Tryz.prog probityref01_decimal_E 37 (probityref01_decimal_O Kv) 0 (ρ) [(Value.int .i64 n_0)] w := by kernel_rfl

theorem probityref01_decimal_q0 (Kv : VW) (ρ : Rho) (vs : List Value) (w : World) : labAt (probityref01_decimal_O Kv) 0 ρ vs w = probityref01_decimal_P0 Kv ρ vs w := by kernel_rfl

theorem probityref01_decimal_h0 (Kv : VW) : holdsAt Tryz.prog probityref01_decimal_E 37 (probityref01_decimal_O Kv) 0 := holdsAt_cut (.inl (by kernel_rfl)) (fun ρ vs w h => by
  rw [probityref01_decimal_q0] at h
  unfold probityref01_decimal_P0 at h
  split at h
  · rw [← probityref01_decimal_e0]; exact h.out
  · exact h.elim)

theorem probityref01_decimal_n (Kv : VW) : obAt (probityref01_decimal_O Kv) 1 = none := by kernel_rfl

theorem probityref01_decimal_h (Kv : VW) : ∀ k, holdsAt Tryz.prog probityref01_decimal_E 37 (probityref01_decimal_O Kv) k := fun k => match k with
  | 0 => probityref01_decimal_h0 Kv
  | _k + 1 => holdsAt_ge (probityref01_decimal_n Kv) (Nat.le_add_left _ _)

theorem probityref01_decimal_mk (n_0 : Int) {K : ByteArray → World → Prop} {w : World} (h : probityref01_decimal_sd n_0 K w) : probityref01_decimal_sh n_0 K w := by
  have e : (fun (r0 : ByteArray) (w' : World) => (fun (v : Value) (w' : World) => ∃ r0 : ByteArray, v = (Value.string r0) ∧ K r0 w') (Value.string r0) w') = K := by
    funext r0 w'
    apply propext
    constructor
    · rintro ⟨r0', hv, hk⟩
      cases hv
      exact hk
    · intro hk
      exact ⟨_, rfl, hk⟩
  have h' : probityref01_decimal_sd n_0 (fun (r0 : ByteArray) (w' : World) => (fun (v : Value) (w' : World) => ∃ r0 : ByteArray, v = (Value.string r0) ∧ K r0 w') (Value.string r0) w') w := by rw [e]; exact h
  rw [probityref01_decimal_e (fun (v : Value) (w' : World) => ∃ r0 : ByteArray, v = (Value.string r0) ∧ K r0 w')] at h'
  refine ⟨(calls_sound (Γ := probityref01_decimal_E) progMixed ⟨.inl probityref01_decimal_okr, trivial⟩ Tryz.func60 (code := probityref01_decimal_C) (by kernel_rfl) (probityref01_decimal_A (fun (v : Value) (w' : World) => ∃ r0 : ByteArray, v = (Value.string r0) ∧ K r0 w')) (fun (v : Value) (w' : World) => ∃ r0 : ByteArray, v = (Value.string r0) ∧ K r0 w') (holds_all (probityref01_decimal_h (fun (v : Value) (w' : World) => ∃ r0 : ByteArray, v = (Value.string r0) ∧ K r0 w'))) (Nat.le_of_ble_eq_true (by kernel_rfl)) h').mono fun e w' he => ?_⟩
  obtain ⟨v, rfl, _, rfl, hk⟩ := he
  exact ⟨_, rfl, hk⟩

/-! probityref01_Text -/
def probityref01_Text_sd (a_0_0 : Int) (a_0_1 : Int) (K : ByteArray → World → Prop) (w : World) : Prop :=
  let w1 : World := w.alloc (Obj.cells #[(Value.int .i64 a_0_0), (Value.int .i64 a_0_1)] 26)
  ∃ x2 : Int, w1.cell? (Addr.mk w.heap.size 0 none) = some (Value.int .i64 x2) ∧ ∃ x3 : Int, w1.cell? (Addr.mk w.heap.size 1 none) = some (Value.int .i64 x3) ∧ probityref01_Right_sh x2 x3 (fun (r5 : Bool) (w4 : World) => cnd (!r5)
    (K (str []) w4)
    (∃ x6 : Int, w4.cell? (Addr.mk w.heap.size 1 none) = some (Value.int .i64 x6) ∧ cnd (x6 == (1 : Int))
    (∃ x7 : Int, w4.cell? (Addr.mk w.heap.size 0 none) = some (Value.int .i64 x7) ∧ probityref01_decimal_sh x7 (fun (r9 : ByteArray) (w8 : World) => K r9 w8) w4)
    (let w10 : World := w4.drew
  ∃ S11 : World → Prop, S11 w10 ∧ ∃ x12 : Int, (∀ w' : World, S11 w' → w'.cell? (Addr.mk w.heap.size 0 none) = some (Value.int .i64 x12)) ∧ ∃ x13 : Int, (∀ w' : World, S11 w' → w'.cell? (Addr.mk w.heap.size 1 none) = some (Value.int .i64 x13)) ∧ probityref01_decimal_sh x12 (fun (r15 : ByteArray) (w14 : World) => S11 w14 ∧ (((r15.size + (str [47]).size : Nat) : Int) ≤ maxI) ∧ probityref01_decimal_sh x13 (fun (r17 : ByteArray) (w16 : World) => S11 w16 ∧ ((((r15 ++ (str [47])).size + r17.size : Nat) : Int) ≤ maxI) ∧ K ((r15 ++ (str [47])) ++ r17) w16) w14) w10))) w1

structure probityref01_Text_sh (a_0_0 : Int) (a_0_1 : Int) (K : ByteArray → World → Prop) (w : World) : Prop where
  out : probityref01_Text_sd a_0_0 a_0_1 K w

noncomputable def probityref01_Text_S : Pw.Spec := fun vs w Kv =>
  match vs with
  | [.agg ⟨[.int .i64 a_0_0, .int .i64 a_0_1]⟩] => probityref01_Text_sh a_0_0 a_0_1 (fun (r0 : ByteArray) (w' : World) => Kv (Value.string r0) w') w
  | _ => False

noncomputable def probityref01_Text_E : Pw.Env := [(38, probityref01_Right_S), (60, probityref01_decimal_S)]

noncomputable def probityref01_Text_C : Code := (Tryz.f31.body).getD .skip

noncomputable def probityref01_Text_A (_Kv : VW) : Pw.A :=
  (A.seq (A.reg (RA.run (RA.run RA.done)))
   (A.seq (A.reg (RA.run (RA.run (RA.run RA.done))))
   (A.seq (A.seq (A.reg (RA.run (RA.run RA.done)))
   (A.cond (A.seq (A.reg (RA.run RA.done))
   A.leaf)
   A.leaf))
   (A.seq (A.seq (A.reg (RA.run (RA.run (RA.run RA.done))))
   (A.cond (A.seq (A.reg (RA.run (RA.run (RA.run (RA.run RA.done)))))
   A.leaf)
   A.leaf))
   (A.seq (A.drw (DA.pur 0 (DA.pur 1 (DA.pur 4 (DA.pur 5 (DA.eff 2 (DA.pur 3 (DA.eff 6 (DA.pur 7 (DA.pur 8 DA.done))))))))))
   A.leaf)))))

noncomputable def probityref01_Text_O (Kv : VW) : List Ob := (obs Tryz.prog probityref01_Text_E 22 (probityref01_Text_A Kv) probityref01_Text_C (fun _ => retQ Tryz.prog Tryz.f31.results Kv))

theorem probityref01_Text_e (Kv : VW) (a_0_0 : Int) (a_0_1 : Int) (w : World) : probityref01_Text_sd a_0_0 a_0_1 (fun (r0 : ByteArray) (w' : World) => Kv (Value.string r0) w') w = W Tryz.prog probityref01_Text_E 22 (probityref01_Text_A Kv) probityref01_Text_C [] (retQ Tryz.prog Tryz.f31.results Kv) [] (startS [(Value.agg #[(Value.int .i64 a_0_0), (Value.int .i64 a_0_1)])]) w := by kernel_rfl

theorem probityref01_Text_n (Kv : VW) : obAt (probityref01_Text_O Kv) 0 = none := by kernel_rfl

theorem probityref01_Text_h (Kv : VW) : ∀ k, holdsAt Tryz.prog probityref01_Text_E 22 (probityref01_Text_O Kv) k := fun _ => holdsAt_ge (probityref01_Text_n Kv) (Nat.zero_le _)

theorem probityref01_Text_ok : Sound Tryz.prog 31 probityref01_Text_S := ⟨Tryz.call31, fun vs w Kv h => by
  unfold probityref01_Text_S at h
  split at h
  · have h := h.out
    rw [probityref01_Text_e] at h
    exact calls_sound (Γ := probityref01_Text_E) progMixed ⟨.inl probityref01_Right_ok, .inl probityref01_decimal_okr, trivial⟩ Tryz.func31 (code := probityref01_Text_C) (by kernel_rfl) (probityref01_Text_A Kv) Kv (holds_all (probityref01_Text_h Kv)) (Nat.le_of_ble_eq_true (by kernel_rfl)) h
  · exact h.elim⟩

/-! probityref01_number -/
def probityref01_number_b1 (s_0 : ByteArray) (n_4 : Int) (i_5 : Int) (N1 : ByteArray → Int → Int → World → Prop)  (K : Int → Bool → World → Prop) (w : World) : Prop :=
  cnd (decide (i_5 < (s_0.size : Int)))
    ((0 ≤ i_5 ∧ i_5 < (s_0.size : Nat)) ∧ cnd (decide (((s_0.data.toList.getD i_5.toNat 0).toNat : Int) < (48 : Int)))
    (K (0 : Int) false w)
    ((0 ≤ i_5 ∧ i_5 < (s_0.size : Nat)) ∧ cnd (decide (((s_0.data.toList.getD i_5.toNat 0).toNat : Int) > (57 : Int)))
    (K (0 : Int) false w)
    ((0 ≤ (0 : Int) ∧ (0 : Int) < (s_0.size : Nat)) ∧ cnd (((s_0.data.toList.getD (0 : Int).toNat 0).toNat : Int) == (45 : Int))
    ((0 ≤ i_5 ∧ i_5 < (s_0.size : Nat)) ∧ N1 s_0 (IntKind.wrap .i64 ((IntKind.wrap .i64 ((10 : Int) * n_4)) - (IntKind.wrap .i64 (IntKind.wrap .u8 (((s_0.data.toList.getD i_5.toNat 0).toNat : Int) - (48 : Int)))))) (IntKind.wrap .i64 (i_5 + (1 : Int))) w)
    ((0 ≤ i_5 ∧ i_5 < (s_0.size : Nat)) ∧ N1 s_0 (IntKind.wrap .i64 ((IntKind.wrap .i64 ((10 : Int) * n_4)) + (IntKind.wrap .i64 (IntKind.wrap .u8 (((s_0.data.toList.getD i_5.toNat 0).toNat : Int) - (48 : Int)))))) (IntKind.wrap .i64 (i_5 + (1 : Int))) w))))
    (probityref01_decimal_sh n_4 (fun (r2 : ByteArray) (w1 : World) => K n_4 (decide (r2 = s_0)) w1) w)
def probityref01_number_l1d (s_0 : ByteArray) (n_4 : Int) (i_5 : Int)  (K : Int → Bool → World → Prop) (w : World) : Prop :=
  ∃ (I : Int → Int → World → Prop) (μ : Int → Int → World → Nat), I n_4 i_5 w ∧ ∀ (n_41 : Int) (i_51 : Int) (w1 : World), I n_41 i_51 w1 →
    probityref01_number_b1 s_0 n_41 i_51 (fun (s_0' : ByteArray) (n_4' : Int) (i_5' : Int) (w' : World) => ((s_0' = s_0 ∧ True) ∧ I n_4' i_5' w') ∧ μ n_4' i_5' w' < μ n_41 i_51 w1)  K w1
structure probityref01_number_l1 (s_0 : ByteArray) (n_4 : Int) (i_5 : Int)  (K : Int → Bool → World → Prop) (w : World) : Prop where
  out : probityref01_number_l1d s_0 n_4 i_5 K w

def probityref01_number_k0d (s_0 : ByteArray) (n_4 : Int) (i_5 : Int)  (K : Int → Bool → World → Prop) (w : World) : Prop :=
  cnd ((s_0.size : Int) == i_5)
    (K (0 : Int) false w)
    (cnd (decide ((s_0.size : Int) > (20 : Int)))
    (K (0 : Int) false w)
    (probityref01_number_l1 s_0 n_4 i_5 K w))
structure probityref01_number_k0 (s_0 : ByteArray) (n_4 : Int) (i_5 : Int)  (K : Int → Bool → World → Prop) (w : World) : Prop where
  out : probityref01_number_k0d s_0 n_4 i_5 K w

def probityref01_number_sd (s_0 : ByteArray) (K : Int → Bool → World → Prop) (w : World) : Prop :=
  cnd (decide ((s_0.size : Int) > (0 : Int)))
    ((0 ≤ (0 : Int) ∧ (0 : Int) < (s_0.size : Nat)) ∧ cnd (((s_0.data.toList.getD (0 : Int).toNat 0).toNat : Int) == (45 : Int))
    (probityref01_number_k0 s_0 (0 : Int) (1 : Int) K w)
    (probityref01_number_k0 s_0 (0 : Int) (0 : Int) K w))
    (probityref01_number_k0 s_0 (0 : Int) (0 : Int) K w)

structure probityref01_number_sh (s_0 : ByteArray) (K : Int → Bool → World → Prop) (w : World) : Prop where
  out : probityref01_number_sd s_0 K w

def probityref01_number_P0 (Kv : VW) (ρ : Rho) (vs : List Value) (w : World) : Prop :=
  match ρ, vs with
  | _, [.string s_0, .int .i64 n_4, .int .i64 i_5] => probityref01_number_k0 s_0 n_4 i_5  (fun (r0 : Int) (r1 : Bool) (w' : World) => Kv (Value.tuple #[(Value.int .i64 r0), (Value.bool r1)]) w') w
  | _, _ => False

def probityref01_number_P1 (Kv : VW) (ρ : Rho) (vs : List Value) (w : World) : Prop :=
  match ρ, vs with
  | _, [.string s_0, .int .i64 n_4, .int .i64 i_5] => probityref01_number_l1 s_0 n_4 i_5  (fun (r0 : Int) (r1 : Bool) (w' : World) => Kv (Value.tuple #[(Value.int .i64 r0), (Value.bool r1)]) w') w
  | _, _ => False

noncomputable def probityref01_number_S : Pw.Spec := fun vs w Kv =>
  match vs with
  | [.string s_0] => probityref01_number_sh s_0 (fun (r0 : Int) (r1 : Bool) (w' : World) => Kv (Value.tuple #[(Value.int .i64 r0), (Value.bool r1)]) w') w
  | _ => False

noncomputable def probityref01_number_E : Pw.Env := [(60, probityref01_decimal_S)]

noncomputable def probityref01_number_C : Code := (Tryz.f30.body).getD .skip

noncomputable def probityref01_number_A (Kv : VW) : Pw.A :=
  (A.seq (A.reg (RA.run (RA.run RA.done)))
   (A.seq (A.reg (RA.run RA.done))
   (A.seq (A.reg (RA.run RA.done))
   (A.seq (A.seq (A.reg (RA.run (RA.run (RA.run (RA.run (RA.spl 9 (RA.run (RA.run (RA.run (RA.run RA.done)))) (RA.skp (RA.skp (RA.skp (RA.run RA.done))))))))))
   (A.cond (A.reg (RA.run RA.done))
   A.leaf))
   (A.cut [0, 4, 5] (probityref01_number_P0 Kv) (A.seq (A.seq (A.reg (RA.run (RA.run (RA.run (RA.run (RA.run (RA.spl 18 (RA.skp (RA.skp (RA.skp (RA.run RA.done)))) (RA.run (RA.run (RA.run (RA.run RA.done)))))))))))
   (A.cond (A.seq (A.reg (RA.run (RA.run RA.done)))
   A.leaf)
   A.leaf))
   (A.seq (A.blk (A.loop [0, 4, 5] (probityref01_number_P1 Kv) (A.seq (A.seq (A.reg (RA.run (RA.run (RA.run (RA.run RA.done)))))
   (A.cond A.leaf
   A.leaf))
   (A.seq (A.blk (A.seq (A.seq (A.reg (RA.run (RA.run (RA.run (RA.run (RA.run (RA.spl 33 (RA.skp (RA.skp (RA.skp (RA.skp (RA.run RA.done))))) (RA.run (RA.run (RA.run (RA.run (RA.run RA.done))))))))))))
   (A.cond (A.seq (A.reg (RA.run (RA.run RA.done)))
   A.leaf)
   A.leaf))
   (A.seq (A.reg (RA.run (RA.run (RA.run RA.done))))
   (A.cond (A.reg (RA.run (RA.raw (RA.run (RA.run (RA.run (RA.raw (RA.raw (RA.raw (RA.run RA.done))))))))))
   (A.reg (RA.run (RA.raw (RA.run (RA.run (RA.run (RA.raw (RA.raw (RA.raw (RA.run RA.done))))))))))))))
   (A.reg (RA.run (RA.raw (RA.run RA.done))))))))
   (A.seq (A.reg (RA.run (RA.run (RA.run (RA.run (RA.run (RA.run (RA.run RA.done))))))))
   A.leaf))))))))

noncomputable def probityref01_number_O (Kv : VW) : List Ob := (obs Tryz.prog probityref01_number_E 63 (probityref01_number_A Kv) probityref01_number_C (fun _ => retQ Tryz.prog Tryz.f30.results Kv))

theorem probityref01_number_e (Kv : VW) (s_0 : ByteArray) (w : World) : probityref01_number_sd s_0 (fun (r0 : Int) (r1 : Bool) (w' : World) => Kv (Value.tuple #[(Value.int .i64 r0), (Value.bool r1)]) w') w = W Tryz.prog probityref01_number_E 63 (probityref01_number_A Kv) probityref01_number_C [] (retQ Tryz.prog Tryz.f30.results Kv) [] (startS [(Value.string s_0)]) w := by kernel_rfl

theorem probityref01_number_e0 (Kv : VW) (ρ : Rho) (s_0 : ByteArray) (n_4 : Int) (i_5 : Int) (w : World) : probityref01_number_k0d s_0 n_4 i_5  (fun (r0 : Int) (r1 : Bool) (w' : World) => Kv (Value.tuple #[(Value.int .i64 r0), (Value.bool r1)]) w') w = goalAt Tryz.prog probityref01_number_E 63 (probityref01_number_O Kv) 0 (ρ) [(Value.string s_0), (Value.int .i64 n_4), (Value.int .i64 i_5)] w := by kernel_rfl

theorem probityref01_number_q0 (Kv : VW) (ρ : Rho) (vs : List Value) (w : World) : labAt (probityref01_number_O Kv) 0 ρ vs w = probityref01_number_P0 Kv ρ vs w := by kernel_rfl

theorem probityref01_number_h0 (Kv : VW) : holdsAt Tryz.prog probityref01_number_E 63 (probityref01_number_O Kv) 0 := holdsAt_cut (.inl (by kernel_rfl)) (fun ρ vs w h => by
  rw [probityref01_number_q0] at h
  unfold probityref01_number_P0 at h
  split at h
  · rw [← probityref01_number_e0]; exact h.out
  · exact h.elim)

theorem probityref01_number_e1 (Kv : VW) (N1 : List Value → World → Prop) (ρ : Rho) (s_0 : ByteArray) (n_4 : Int) (i_5 : Int) (w : World) : probityref01_number_b1 s_0 n_4 i_5 (fun (s_0' : ByteArray) (n_4' : Int) (i_5' : Int) (w' : World) => N1 [(Value.string s_0'), (Value.int .i64 n_4'), (Value.int .i64 i_5')] w')  (fun (r0 : Int) (r1 : Bool) (w' : World) => Kv (Value.tuple #[(Value.int .i64 r0), (Value.bool r1)]) w') w = goalAt Tryz.prog probityref01_number_E 63 (probityref01_number_O Kv) 1 (N1 :: ρ) [(Value.string s_0), (Value.int .i64 n_4), (Value.int .i64 i_5)] w := by kernel_rfl

theorem probityref01_number_q1 (Kv : VW) (ρ : Rho) (vs : List Value) (w : World) : labAt (probityref01_number_O Kv) 1 ρ vs w = probityref01_number_P1 Kv ρ vs w := by kernel_rfl

def probityref01_number_I1 (s_00 : ByteArray) (I : Int → Int → World → Prop) (vs : List Value) (w : World) : Prop :=
  match vs with
  | [.string s_0, .int .i64 n_4, .int .i64 i_5] => (s_0 = s_00 ∧ True) ∧ I n_4 i_5 w
  | _ => False

def probityref01_number_M1 (μ : Int → Int → World → Nat) (vs : List Value) (w : World) : Nat :=
  match vs with
  | [.string _s_0, .int .i64 n_4, .int .i64 i_5] => μ n_4 i_5 w
  | _ => 0

theorem probityref01_number_h1 (Kv : VW) : holdsAt Tryz.prog probityref01_number_E 63 (probityref01_number_O Kv) 1 := holdsAt_loop (by kernel_rfl) (fun ρ vs w h => by
  rw [probityref01_number_q1] at h
  unfold probityref01_number_P1 at h
  split at h
  · rename_i ρt s_0 n_4 i_5
    obtain ⟨I, μ, h0, hr⟩ := h.out
    refine ⟨probityref01_number_I1 s_0 I, probityref01_number_M1 μ, ⟨⟨rfl, trivial⟩, h0⟩, fun vs w hI => ?_⟩
    unfold probityref01_number_I1 at hI
    split at hI
    · obtain ⟨⟨h0, _⟩, hI⟩ := hI
      cases h0
      rw [← probityref01_number_e1]
      exact hr _ _ _ hI
    · exact hI.elim
  · exact h.elim)

theorem probityref01_number_n (Kv : VW) : obAt (probityref01_number_O Kv) 2 = none := by kernel_rfl

theorem probityref01_number_h (Kv : VW) : ∀ k, holdsAt Tryz.prog probityref01_number_E 63 (probityref01_number_O Kv) k := fun k => match k with
  | 0 => probityref01_number_h0 Kv
  | 1 => probityref01_number_h1 Kv
  | _k + 2 => holdsAt_ge (probityref01_number_n Kv) (Nat.le_add_left _ _)

theorem probityref01_number_ok : Sound Tryz.prog 30 probityref01_number_S := ⟨Tryz.call30, fun vs w Kv h => by
  unfold probityref01_number_S at h
  split at h
  · have h := h.out
    rw [probityref01_number_e] at h
    exact calls_sound (Γ := probityref01_number_E) progMixed ⟨.inl probityref01_decimal_okr, trivial⟩ Tryz.func30 (code := probityref01_number_C) (by kernel_rfl) (probityref01_number_A Kv) Kv (holds_all (probityref01_number_h Kv)) (Nat.le_of_ble_eq_true (by kernel_rfl)) h
  · exact h.elim⟩

/-! probityref01_Parse -/
def probityref01_Parse_k4d (t_2 : Addr)  (K : Int → Int → Bool → World → Prop) (w : World) : Prop :=
  probityref01_Of_sh (0 : Int) (fun (r26_0 : Int) (r26_1 : Int) (w25 : World) => wrOk w25 t_2 ∧ 
  (let w27 : World := w25.setCell t_2 (Value.int .i64 r26_0)
  wrOk w27 (t_2.add 1) ∧ 
  (let w28 : World := w27.setCell (t_2.add 1) (Value.int .i64 r26_1)
  ∃ x29 : Int, w28.cell? t_2 = some (Value.int .i64 x29) ∧ ∃ x30 : Int, w28.cell? (t_2.add 1) = some (Value.int .i64 x30) ∧ K x29 x30 false w28))) w
structure probityref01_Parse_k4 (t_2 : Addr)  (K : Int → Int → Bool → World → Prop) (w : World) : Prop where
  out : probityref01_Parse_k4d t_2 K w

def probityref01_Parse_k3d (s_0 : ByteArray) (t_2 : Addr) (a_4 : Addr) (found_5 : Bool)  (K : Int → Int → Bool → World → Prop) (w : World) : Prop :=
  cnd found_5
    (∃ x15 : Int, w.cell? a_4 = some (Value.int .i64 x15) ∧ ∃ x16 : Int, w.cell? (a_4.add 1) = some (Value.int .i64 x16) ∧ probityref01_Text_sh x15 x16 (fun (r18 : ByteArray) (w17 : World) => cnd (decide (r18 = s_0))
    (∃ x19 : Int, w17.cell? a_4 = some (Value.int .i64 x19) ∧ ∃ x20 : Int, w17.cell? (a_4.add 1) = some (Value.int .i64 x20) ∧ wrOk w17 t_2 ∧ 
  (let w21 : World := w17.setCell t_2 (Value.int .i64 x19)
  wrOk w21 (t_2.add 1) ∧ 
  (let w22 : World := w21.setCell (t_2.add 1) (Value.int .i64 x20)
  ∃ x23 : Int, w22.cell? t_2 = some (Value.int .i64 x23) ∧ ∃ x24 : Int, w22.cell? (t_2.add 1) = some (Value.int .i64 x24) ∧ K x23 x24 true w22)))
    (probityref01_Parse_k4 t_2 K w17)) w)
    (probityref01_Parse_k4 t_2 K w)
structure probityref01_Parse_k3 (s_0 : ByteArray) (t_2 : Addr) (a_4 : Addr) (found_5 : Bool)  (K : Int → Int → Bool → World → Prop) (w : World) : Prop where
  out : probityref01_Parse_k3d s_0 t_2 a_4 found_5 K w

def probityref01_Parse_k2d (s_0 : ByteArray) (t_2 : Addr) (a_4 : Addr) (n_7 : Int) (one_8 : Bool) (d_9 : Int) (two_10 : Bool) (_N0 : ByteArray → Addr → Addr → Bool → Int → World → Prop) (K : Int → Int → Bool → World → Prop) (w : World) : Prop :=
  wrOk w a_4 ∧ 
  (let w13 : World := w.setCell a_4 (Value.int .i64 n_7)
  wrOk w13 (a_4.add 1) ∧ 
  (let w14 : World := w13.setCell (a_4.add 1) (Value.int .i64 d_9)
  cnd one_8
    (probityref01_Parse_k3 s_0 t_2 a_4 two_10 K w14)
    (probityref01_Parse_k3 s_0 t_2 a_4 false K w14)))
structure probityref01_Parse_k2 (s_0 : ByteArray) (t_2 : Addr) (a_4 : Addr) (n_7 : Int) (one_8 : Bool) (d_9 : Int) (two_10 : Bool) (N0 : ByteArray → Addr → Addr → Bool → Int → World → Prop) (K : Int → Int → Bool → World → Prop) (w : World) : Prop where
  out : probityref01_Parse_k2d s_0 t_2 a_4 n_7 one_8 d_9 two_10 N0 K w

def probityref01_Parse_k1d (s_0 : ByteArray) (t_2 : Addr) (a_4 : Addr) (i_6 : Int) (N0 : ByteArray → Addr → Addr → Bool → Int → World → Prop) (K : Int → Int → Bool → World → Prop) (w : World) : Prop :=
  (0 ≤ (0 : Int) ∧ (0 : Int) ≤ i_6 ∧ i_6 ≤ (s_0.size : Nat)) ∧ probityref01_number_sh (s_0.extract 0 i_6.toNat) (fun (r8 : Int) (r9 : Bool) (w7 : World) => cnd (decide (i_6 < (s_0.size : Int)))
    (inR .i64 (i_6 + (1 : Int)) ∧ (0 ≤ (i_6 + (1 : Int)) ∧ (i_6 + (1 : Int)) ≤ (s_0.size : Nat)) ∧ probityref01_number_sh (s_0.extract (i_6 + (1 : Int)).toNat s_0.size) (fun (r11 : Int) (r12 : Bool) (w10 : World) => probityref01_Parse_k2 s_0 t_2 a_4 r8 r9 r11 r12 N0 K w10) w7)
    (probityref01_Parse_k2 s_0 t_2 a_4 r8 r9 (1 : Int) true N0 K w7)) w
structure probityref01_Parse_k1 (s_0 : ByteArray) (t_2 : Addr) (a_4 : Addr) (i_6 : Int) (N0 : ByteArray → Addr → Addr → Bool → Int → World → Prop) (K : Int → Int → Bool → World → Prop) (w : World) : Prop where
  out : probityref01_Parse_k1d s_0 t_2 a_4 i_6 N0 K w

def probityref01_Parse_b0 (s_0 : ByteArray) (t_2 : Addr) (a_4 : Addr) (found_5 : Bool) (i_6 : Int) (N0 : ByteArray → Addr → Addr → Bool → Int → World → Prop)  (K : Int → Int → Bool → World → Prop) (w : World) : Prop :=
  cnd (decide (i_6 ≤ (s_0.size : Int)))
    (cnd (decide (i_6 < (s_0.size : Int)))
    ((0 ≤ i_6 ∧ i_6 < (s_0.size : Nat)) ∧ cnd (((s_0.data.toList.getD i_6.toNat 0).toNat : Int) != (47 : Int))
    (inR .i64 (i_6 + (1 : Int)) ∧ N0 s_0 t_2 a_4 found_5 (i_6 + (1 : Int)) w)
    (probityref01_Parse_k1 s_0 t_2 a_4 i_6 N0 K w))
    (probityref01_Parse_k1 s_0 t_2 a_4 i_6 N0 K w))
    (probityref01_Parse_k3 s_0 t_2 a_4 found_5 K w)
def probityref01_Parse_l0d (s_0 : ByteArray) (t_2 : Addr) (a_4 : Addr) (found_5 : Bool) (i_6 : Int)  (K : Int → Int → Bool → World → Prop) (w : World) : Prop :=
  ∃ (I : Bool → Int → World → Prop) (μ : Bool → Int → World → Nat), I found_5 i_6 w ∧ ∀ (found_51 : Bool) (i_61 : Int) (w1 : World), I found_51 i_61 w1 →
    probityref01_Parse_b0 s_0 t_2 a_4 found_51 i_61 (fun (s_0' : ByteArray) (t_2' : Addr) (a_4' : Addr) (found_5' : Bool) (i_6' : Int) (w' : World) => ((s_0' = s_0 ∧ t_2' = t_2 ∧ a_4' = a_4 ∧ True) ∧ I found_5' i_6' w') ∧ μ found_5' i_6' w' < μ found_51 i_61 w1)  K w1
structure probityref01_Parse_l0 (s_0 : ByteArray) (t_2 : Addr) (a_4 : Addr) (found_5 : Bool) (i_6 : Int)  (K : Int → Int → Bool → World → Prop) (w : World) : Prop where
  out : probityref01_Parse_l0d s_0 t_2 a_4 found_5 i_6 K w

def probityref01_Parse_sd (s_0 : ByteArray) (K : Int → Int → Bool → World → Prop) (w : World) : Prop :=
  let w1 : World := w.alloc (Obj.cells #[(Value.int .i64 (0 : Int)), (Value.int .i64 (0 : Int))] 26)
  probityref01_Of_sh (0 : Int) (fun (r3_0 : Int) (r3_1 : Int) (w2 : World) => let w4 : World := w2.alloc (Obj.cells #[(Value.int .i64 (0 : Int)), (Value.int .i64 (0 : Int))] 26)
  wrOk w4 (Addr.mk w2.heap.size 0 none) ∧ 
  (let w5 : World := w4.setCell (Addr.mk w2.heap.size 0 none) (Value.int .i64 r3_0)
  wrOk w5 (Addr.mk w2.heap.size 1 none) ∧ 
  (let w6 : World := w5.setCell (Addr.mk w2.heap.size 1 none) (Value.int .i64 r3_1)
  probityref01_Parse_l0 s_0 (Addr.mk w.heap.size 0 none) (Addr.mk w2.heap.size 0 none) false (0 : Int) K w6))) w1

structure probityref01_Parse_sh (s_0 : ByteArray) (K : Int → Int → Bool → World → Prop) (w : World) : Prop where
  out : probityref01_Parse_sd s_0 K w

def probityref01_Parse_P0 (Kv : VW) (ρ : Rho) (vs : List Value) (w : World) : Prop :=
  match ρ, vs with
  | _, [.string s_0, .pointer (some t_2), .pointer (some a_4), .bool found_5, .int .i64 i_6] => probityref01_Parse_l0 s_0 t_2 a_4 found_5 i_6  (fun (r0_0 : Int) (r0_1 : Int) (r1 : Bool) (w' : World) => Kv (Value.tuple #[(Value.agg #[(Value.int .i64 r0_0), (Value.int .i64 r0_1)]), (Value.bool r1)]) w') w
  | _, _ => False

def probityref01_Parse_P1 (Kv : VW) (ρ : Rho) (vs : List Value) (w : World) : Prop :=
  match ρ, vs with
  | N0 :: _, [.string s_0, .pointer (some t_2), .pointer (some a_4), .int .i64 i_6] => probityref01_Parse_k1 s_0 t_2 a_4 i_6 (fun (s_0' : ByteArray) (t_2' : Addr) (a_4' : Addr) (found_5' : Bool) (i_6' : Int) (w' : World) => N0 [(Value.string s_0'), (Value.pointer (some t_2')), (Value.pointer (some a_4')), (Value.bool found_5'), (Value.int .i64 i_6')] w') (fun (r0_0 : Int) (r0_1 : Int) (r1 : Bool) (w' : World) => Kv (Value.tuple #[(Value.agg #[(Value.int .i64 r0_0), (Value.int .i64 r0_1)]), (Value.bool r1)]) w') w
  | _, _ => False

def probityref01_Parse_P2 (Kv : VW) (ρ : Rho) (vs : List Value) (w : World) : Prop :=
  match ρ, vs with
  | N0 :: _, [.string s_0, .pointer (some t_2), .pointer (some a_4), .int .i64 n_7, .bool one_8, .int .i64 d_9, .bool two_10] => probityref01_Parse_k2 s_0 t_2 a_4 n_7 one_8 d_9 two_10 (fun (s_0' : ByteArray) (t_2' : Addr) (a_4' : Addr) (found_5' : Bool) (i_6' : Int) (w' : World) => N0 [(Value.string s_0'), (Value.pointer (some t_2')), (Value.pointer (some a_4')), (Value.bool found_5'), (Value.int .i64 i_6')] w') (fun (r0_0 : Int) (r0_1 : Int) (r1 : Bool) (w' : World) => Kv (Value.tuple #[(Value.agg #[(Value.int .i64 r0_0), (Value.int .i64 r0_1)]), (Value.bool r1)]) w') w
  | _, _ => False

def probityref01_Parse_P3 (Kv : VW) (ρ : Rho) (vs : List Value) (w : World) : Prop :=
  match ρ, vs with
  | _, [.string s_0, .pointer (some t_2), .pointer (some a_4), .bool found_5] => probityref01_Parse_k3 s_0 t_2 a_4 found_5  (fun (r0_0 : Int) (r0_1 : Int) (r1 : Bool) (w' : World) => Kv (Value.tuple #[(Value.agg #[(Value.int .i64 r0_0), (Value.int .i64 r0_1)]), (Value.bool r1)]) w') w
  | _, _ => False

def probityref01_Parse_P4 (Kv : VW) (ρ : Rho) (vs : List Value) (w : World) : Prop :=
  match ρ, vs with
  | _, [.pointer (some t_2)] => probityref01_Parse_k4 t_2  (fun (r0_0 : Int) (r0_1 : Int) (r1 : Bool) (w' : World) => Kv (Value.tuple #[(Value.agg #[(Value.int .i64 r0_0), (Value.int .i64 r0_1)]), (Value.bool r1)]) w') w
  | _, _ => False

noncomputable def probityref01_Parse_S : Pw.Spec := fun vs w Kv =>
  match vs with
  | [.string s_0] => probityref01_Parse_sh s_0 (fun (r0_0 : Int) (r0_1 : Int) (r1 : Bool) (w' : World) => Kv (Value.tuple #[(Value.agg #[(Value.int .i64 r0_0), (Value.int .i64 r0_1)]), (Value.bool r1)]) w') w
  | _ => False

noncomputable def probityref01_Parse_E : Pw.Env := [(24, probityref01_Of_S), (30, probityref01_number_S), (31, probityref01_Text_S)]

noncomputable def probityref01_Parse_C : Code := (Tryz.f11.body).getD .skip

noncomputable def probityref01_Parse_A (Kv : VW) : Pw.A :=
  (A.seq (A.reg (RA.run (RA.run RA.done)))
   (A.seq (A.reg (RA.run (RA.run (RA.run RA.done))))
   (A.seq (A.reg (RA.run RA.done))
   (A.seq (A.seq (A.reg (RA.run RA.done))
   (A.blk (A.loop [0, 2, 4, 5, 6] (probityref01_Parse_P0 Kv) (A.seq (A.seq (A.reg (RA.run (RA.run (RA.run (RA.run RA.done)))))
   (A.cond A.leaf
   A.leaf))
   (A.seq (A.blk (A.seq (A.seq (A.reg (RA.run (RA.run (RA.run (RA.run (RA.run (RA.spl 22 (RA.run (RA.run (RA.run (RA.run (RA.run RA.done))))) (RA.skp (RA.skp (RA.skp (RA.skp (RA.run RA.done))))))))))))
   (A.cond A.leaf
   A.leaf))
   (A.cut [0, 2, 4, 6] (probityref01_Parse_P1 Kv) (A.seq (A.reg (RA.run (RA.run (RA.run (RA.run (RA.run (RA.run (RA.run (RA.run (RA.run RA.done))))))))))
   (A.seq (A.reg (RA.run RA.done))
   (A.seq (A.reg (RA.run RA.done))
   (A.seq (A.seq (A.reg (RA.run (RA.run (RA.run (RA.run RA.done)))))
   (A.cond (A.reg (RA.run (RA.run (RA.run (RA.run (RA.run (RA.run (RA.run (RA.run (RA.run (RA.run RA.done)))))))))))
   A.leaf))
   (A.cut [0, 2, 4, 7, 8, 9, 10] (probityref01_Parse_P2 Kv) (A.seq (A.reg (RA.run (RA.run (RA.run (RA.run RA.done)))))
   (A.seq (A.reg (RA.run (RA.run (RA.spl 51 (RA.run (RA.run (RA.run RA.done))) (RA.skp (RA.run (RA.run RA.done)))))))
   A.leaf))))))))))
   (A.reg (RA.run (RA.run (RA.run RA.done)))))))))
   (A.cut [0, 2, 4, 5] (probityref01_Parse_P3 Kv) (A.seq (A.seq (A.reg (RA.run (RA.run (RA.spl 55 (RA.run (RA.run (RA.run (RA.run (RA.run RA.done))))) (RA.skp (RA.skp (RA.skp (RA.skp (RA.run RA.done)))))))))
   (A.cond (A.seq (A.reg (RA.run (RA.run (RA.run RA.done))))
   A.leaf)
   A.leaf))
   (A.cut [2] (probityref01_Parse_P4 Kv) (A.seq (A.reg (RA.run (RA.run (RA.run RA.done))))
   A.leaf))))))))

noncomputable def probityref01_Parse_O (Kv : VW) : List Ob := (obs Tryz.prog probityref01_Parse_E 63 (probityref01_Parse_A Kv) probityref01_Parse_C (fun _ => retQ Tryz.prog Tryz.f11.results Kv))

theorem probityref01_Parse_e (Kv : VW) (s_0 : ByteArray) (w : World) : probityref01_Parse_sd s_0 (fun (r0_0 : Int) (r0_1 : Int) (r1 : Bool) (w' : World) => Kv (Value.tuple #[(Value.agg #[(Value.int .i64 r0_0), (Value.int .i64 r0_1)]), (Value.bool r1)]) w') w = W Tryz.prog probityref01_Parse_E 63 (probityref01_Parse_A Kv) probityref01_Parse_C [] (retQ Tryz.prog Tryz.f11.results Kv) [] (startS [(Value.string s_0)]) w := by kernel_rfl

theorem probityref01_Parse_e0 (Kv : VW) (N0 : List Value → World → Prop) (ρ : Rho) (s_0 : ByteArray) (t_2 : Addr) (a_4 : Addr) (found_5 : Bool) (i_6 : Int) (w : World) : probityref01_Parse_b0 s_0 t_2 a_4 found_5 i_6 (fun (s_0' : ByteArray) (t_2' : Addr) (a_4' : Addr) (found_5' : Bool) (i_6' : Int) (w' : World) => N0 [(Value.string s_0'), (Value.pointer (some t_2')), (Value.pointer (some a_4')), (Value.bool found_5'), (Value.int .i64 i_6')] w')  (fun (r0_0 : Int) (r0_1 : Int) (r1 : Bool) (w' : World) => Kv (Value.tuple #[(Value.agg #[(Value.int .i64 r0_0), (Value.int .i64 r0_1)]), (Value.bool r1)]) w') w = goalAt Tryz.prog probityref01_Parse_E 63 (probityref01_Parse_O Kv) 0 (N0 :: ρ) [(Value.string s_0), (Value.pointer (some t_2)), (Value.pointer (some a_4)), (Value.bool found_5), (Value.int .i64 i_6)] w := by kernel_rfl

theorem probityref01_Parse_q0 (Kv : VW) (ρ : Rho) (vs : List Value) (w : World) : labAt (probityref01_Parse_O Kv) 0 ρ vs w = probityref01_Parse_P0 Kv ρ vs w := by kernel_rfl

def probityref01_Parse_I0 (s_00 : ByteArray) (t_20 : Addr) (a_40 : Addr) (I : Bool → Int → World → Prop) (vs : List Value) (w : World) : Prop :=
  match vs with
  | [.string s_0, .pointer (some t_2), .pointer (some a_4), .bool found_5, .int .i64 i_6] => (s_0 = s_00 ∧ t_2 = t_20 ∧ a_4 = a_40 ∧ True) ∧ I found_5 i_6 w
  | _ => False

def probityref01_Parse_M0 (μ : Bool → Int → World → Nat) (vs : List Value) (w : World) : Nat :=
  match vs with
  | [.string _s_0, .pointer (some _t_2), .pointer (some _a_4), .bool found_5, .int .i64 i_6] => μ found_5 i_6 w
  | _ => 0

theorem probityref01_Parse_h0 (Kv : VW) : holdsAt Tryz.prog probityref01_Parse_E 63 (probityref01_Parse_O Kv) 0 := holdsAt_loop (by kernel_rfl) (fun ρ vs w h => by
  rw [probityref01_Parse_q0] at h
  unfold probityref01_Parse_P0 at h
  split at h
  · rename_i ρt s_0 t_2 a_4 found_5 i_6
    obtain ⟨I, μ, h0, hr⟩ := h.out
    refine ⟨probityref01_Parse_I0 s_0 t_2 a_4 I, probityref01_Parse_M0 μ, ⟨⟨rfl, rfl, rfl, trivial⟩, h0⟩, fun vs w hI => ?_⟩
    unfold probityref01_Parse_I0 at hI
    split at hI
    · obtain ⟨⟨h0, h1, h2, _⟩, hI⟩ := hI
      cases h0; cases h1; cases h2
      rw [← probityref01_Parse_e0]
      exact hr _ _ _ hI
    · exact hI.elim
  · exact h.elim)

theorem probityref01_Parse_e1 (Kv : VW) (N0 : List Value → World → Prop) (ρ : Rho) (s_0 : ByteArray) (t_2 : Addr) (a_4 : Addr) (i_6 : Int) (w : World) : probityref01_Parse_k1d s_0 t_2 a_4 i_6 (fun (s_0' : ByteArray) (t_2' : Addr) (a_4' : Addr) (found_5' : Bool) (i_6' : Int) (w' : World) => N0 [(Value.string s_0'), (Value.pointer (some t_2')), (Value.pointer (some a_4')), (Value.bool found_5'), (Value.int .i64 i_6')] w') (fun (r0_0 : Int) (r0_1 : Int) (r1 : Bool) (w' : World) => Kv (Value.tuple #[(Value.agg #[(Value.int .i64 r0_0), (Value.int .i64 r0_1)]), (Value.bool r1)]) w') w = goalAt Tryz.prog probityref01_Parse_E 63 (probityref01_Parse_O Kv) 1 (N0 :: ρ) [(Value.string s_0), (Value.pointer (some t_2)), (Value.pointer (some a_4)), (Value.int .i64 i_6)] w := by kernel_rfl

theorem probityref01_Parse_q1 (Kv : VW) (ρ : Rho) (vs : List Value) (w : World) : labAt (probityref01_Parse_O Kv) 1 ρ vs w = probityref01_Parse_P1 Kv ρ vs w := by kernel_rfl

theorem probityref01_Parse_h1 (Kv : VW) : holdsAt Tryz.prog probityref01_Parse_E 63 (probityref01_Parse_O Kv) 1 := holdsAt_cut (.inl (by kernel_rfl)) (fun ρ vs w h => by
  rw [probityref01_Parse_q1] at h
  unfold probityref01_Parse_P1 at h
  split at h
  · rw [← probityref01_Parse_e1]; exact h.out
  · exact h.elim)

theorem probityref01_Parse_e2 (Kv : VW) (N0 : List Value → World → Prop) (ρ : Rho) (s_0 : ByteArray) (t_2 : Addr) (a_4 : Addr) (n_7 : Int) (one_8 : Bool) (d_9 : Int) (two_10 : Bool) (w : World) : probityref01_Parse_k2d s_0 t_2 a_4 n_7 one_8 d_9 two_10 (fun (s_0' : ByteArray) (t_2' : Addr) (a_4' : Addr) (found_5' : Bool) (i_6' : Int) (w' : World) => N0 [(Value.string s_0'), (Value.pointer (some t_2')), (Value.pointer (some a_4')), (Value.bool found_5'), (Value.int .i64 i_6')] w') (fun (r0_0 : Int) (r0_1 : Int) (r1 : Bool) (w' : World) => Kv (Value.tuple #[(Value.agg #[(Value.int .i64 r0_0), (Value.int .i64 r0_1)]), (Value.bool r1)]) w') w = goalAt Tryz.prog probityref01_Parse_E 63 (probityref01_Parse_O Kv) 2 (N0 :: ρ) [(Value.string s_0), (Value.pointer (some t_2)), (Value.pointer (some a_4)), (Value.int .i64 n_7), (Value.bool one_8), (Value.int .i64 d_9), (Value.bool two_10)] w := by kernel_rfl

theorem probityref01_Parse_q2 (Kv : VW) (ρ : Rho) (vs : List Value) (w : World) : labAt (probityref01_Parse_O Kv) 2 ρ vs w = probityref01_Parse_P2 Kv ρ vs w := by kernel_rfl

theorem probityref01_Parse_h2 (Kv : VW) : holdsAt Tryz.prog probityref01_Parse_E 63 (probityref01_Parse_O Kv) 2 := holdsAt_cut (.inl (by kernel_rfl)) (fun ρ vs w h => by
  rw [probityref01_Parse_q2] at h
  unfold probityref01_Parse_P2 at h
  split at h
  · rw [← probityref01_Parse_e2]; exact h.out
  · exact h.elim)

theorem probityref01_Parse_e3 (Kv : VW) (ρ : Rho) (s_0 : ByteArray) (t_2 : Addr) (a_4 : Addr) (found_5 : Bool) (w : World) : probityref01_Parse_k3d s_0 t_2 a_4 found_5  (fun (r0_0 : Int) (r0_1 : Int) (r1 : Bool) (w' : World) => Kv (Value.tuple #[(Value.agg #[(Value.int .i64 r0_0), (Value.int .i64 r0_1)]), (Value.bool r1)]) w') w = goalAt Tryz.prog probityref01_Parse_E 63 (probityref01_Parse_O Kv) 3 (ρ) [(Value.string s_0), (Value.pointer (some t_2)), (Value.pointer (some a_4)), (Value.bool found_5)] w := by kernel_rfl

theorem probityref01_Parse_q3 (Kv : VW) (ρ : Rho) (vs : List Value) (w : World) : labAt (probityref01_Parse_O Kv) 3 ρ vs w = probityref01_Parse_P3 Kv ρ vs w := by kernel_rfl

theorem probityref01_Parse_h3 (Kv : VW) : holdsAt Tryz.prog probityref01_Parse_E 63 (probityref01_Parse_O Kv) 3 := holdsAt_cut (.inl (by kernel_rfl)) (fun ρ vs w h => by
  rw [probityref01_Parse_q3] at h
  unfold probityref01_Parse_P3 at h
  split at h
  · rw [← probityref01_Parse_e3]; exact h.out
  · exact h.elim)

theorem probityref01_Parse_e4 (Kv : VW) (ρ : Rho) (t_2 : Addr) (w : World) : probityref01_Parse_k4d t_2  (fun (r0_0 : Int) (r0_1 : Int) (r1 : Bool) (w' : World) => Kv (Value.tuple #[(Value.agg #[(Value.int .i64 r0_0), (Value.int .i64 r0_1)]), (Value.bool r1)]) w') w = goalAt Tryz.prog probityref01_Parse_E 63 (probityref01_Parse_O Kv) 4 (ρ) [(Value.pointer (some t_2))] w := by kernel_rfl

theorem probityref01_Parse_q4 (Kv : VW) (ρ : Rho) (vs : List Value) (w : World) : labAt (probityref01_Parse_O Kv) 4 ρ vs w = probityref01_Parse_P4 Kv ρ vs w := by kernel_rfl

theorem probityref01_Parse_h4 (Kv : VW) : holdsAt Tryz.prog probityref01_Parse_E 63 (probityref01_Parse_O Kv) 4 := holdsAt_cut (.inl (by kernel_rfl)) (fun ρ vs w h => by
  rw [probityref01_Parse_q4] at h
  unfold probityref01_Parse_P4 at h
  split at h
  · rw [← probityref01_Parse_e4]; exact h.out
  · exact h.elim)

theorem probityref01_Parse_n (Kv : VW) : obAt (probityref01_Parse_O Kv) 5 = none := by kernel_rfl

theorem probityref01_Parse_h (Kv : VW) : ∀ k, holdsAt Tryz.prog probityref01_Parse_E 63 (probityref01_Parse_O Kv) k := fun k => match k with
  | 0 => probityref01_Parse_h0 Kv
  | 1 => probityref01_Parse_h1 Kv
  | 2 => probityref01_Parse_h2 Kv
  | 3 => probityref01_Parse_h3 Kv
  | 4 => probityref01_Parse_h4 Kv
  | _k + 5 => holdsAt_ge (probityref01_Parse_n Kv) (Nat.le_add_left _ _)

theorem probityref01_Parse_ok : Sound Tryz.prog 11 probityref01_Parse_S := ⟨Tryz.call11, fun vs w Kv h => by
  unfold probityref01_Parse_S at h
  split at h
  · have h := h.out
    rw [probityref01_Parse_e] at h
    exact calls_sound (Γ := probityref01_Parse_E) progMixed ⟨.inl probityref01_Of_ok, .inl probityref01_number_ok, .inl probityref01_Text_ok, trivial⟩ Tryz.func11 (code := probityref01_Parse_C) (by kernel_rfl) (probityref01_Parse_A Kv) Kv (holds_all (probityref01_Parse_h Kv)) (Nat.le_of_ble_eq_true (by kernel_rfl)) h
  · exact h.elim⟩

end Go.Proofs.YtfclokkfnkieoaaGreatDoor
