/- The bodies' formulas, by program. -/
import Derived.Test.YtmkjcheafdionaaGreatProg
import Derived.KernelRfl
import Derived.Test.YtmkjcheafdionaaGreatPwX
import Derived.Test.YtmkjcheafdionaaGreatCG0
set_option maxRecDepth 20000
namespace Go.Proofs.YtmkjcheafdionaaGreat
open Go Pw
/-! Rg_Mod -/
def z3a_sd (n_0 m_1 : Int) (K : Pw.T1) (w : World) : Prop :=
  m_1 ≠ 0 /\ inR .i64 ((Int.tmod n_0 m_1) + m_1) /\ m_1 ≠ 0 /\ K (Int.tmod ((Int.tmod n_0 m_1) + m_1) m_1) w
structure z3a_sh (n_0 m_1 : Int) (K : Pw.T1) (w : World) : Prop where
  out : z3a_sd n_0 m_1 K w
noncomputable def z3a_S : Pw.Spec := fun vs w Kv =>
  match vs with
  | [.int .i64 n_0, .int .i64 m_1] => z3a_sh n_0 m_1 (Pw.kI Kv) w
  | _ => False
noncomputable def z3a_E : Pw.Env := []
noncomputable def z3a_C : Code := (Tryz.f39.body).getD .skip
noncomputable def z3a_A (_Kv : VW) : Pw.A :=
  (A.seq (A.reg (RA.run RA.done))
   (A.seq (A.reg (Pw.rn 8 RA.done))
   A.leaf))
noncomputable def z3a_O (Kv : VW) : List Ob := (obs Tryz.prog z3a_E 12 (z3a_A Kv) z3a_C (fun _ => retQ Tryz.prog Tryz.f39.results Kv))
theorem z3a_e (Kv : VW) (n_0 m_1 : Int) (w : World) : z3a_sd n_0 m_1 (Pw.kI Kv) w = W Tryz.prog z3a_E 12 (z3a_A Kv) z3a_C [] (retQ Tryz.prog Tryz.f39.results Kv) [] (startS [(Value.int .i64 n_0), (Value.int .i64 m_1)]) w := by kernel_rfl
theorem z3a_n (Kv : VW) : obAt (z3a_O Kv) 0 = none := by kernel_rfl
theorem z3a_h (Kv : VW) : ∀ k, holdsAt Tryz.prog z3a_E 12 (z3a_O Kv) k := fun _ => holdsAt_ge (z3a_n Kv) (Nat.zero_le _)
theorem z3a_ok : Sound Tryz.prog 39 z3a_S := ⟨Tryz.call39, fun vs w Kv h => by
  unfold z3a_S at h
  split at h
  . have h := h.out
    rw [z3a_e] at h
    exact calls_sound (Γ := z3a_E) progMixed trivial Tryz.func39 (code := z3a_C) (by kernel_rfl) (z3a_A Kv) Kv (holds_all (z3a_h Kv)) (Nat.le_of_ble_eq_true (by kernel_rfl)) h
  . exact h.elim⟩
end Go.Proofs.YtmkjcheafdionaaGreat
