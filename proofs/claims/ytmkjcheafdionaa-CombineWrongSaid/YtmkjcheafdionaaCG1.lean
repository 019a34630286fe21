/- The bodies' formulas, by program. -/
import Derived.Test.YtmkjcheafdionaaProg
import Derived.KernelRfl
import Derived.Test.YtmkjcheafdionaaPwX
import Derived.Test.YtmkjcheafdionaaCG0
set_option maxRecDepth 20000
namespace Go.Proofs.Ytmkjcheafdionaa
open Go Pw
/-! Rg_Mod -/
def Rg_Mod_sd (n_0 m_1 : Int) (K : Int -> World -> Prop) (w : World) : Prop :=
  m_1 ≠ 0 /\ inR .i64 ((Int.tmod n_0 m_1) + m_1) /\ m_1 ≠ 0 /\ K (Int.tmod ((Int.tmod n_0 m_1) + m_1) m_1) w
structure Rg_Mod_sh (n_0 m_1 : Int) (K : Int -> World -> Prop) (w : World) : Prop where
  out : Rg_Mod_sd n_0 m_1 K w
noncomputable def Rg_Mod_S : Pw.Spec := fun vs w Kv =>
  match vs with
  | [.int .i64 n_0, .int .i64 m_1] => Rg_Mod_sh n_0 m_1 (fun r0 w' => Kv (Value.int .i64 r0) w') w
  | _ => False
noncomputable def Rg_Mod_E : Pw.Env := []
noncomputable def Rg_Mod_C : Code := (Try.f13.body).getD .skip
noncomputable def Rg_Mod_A (_Kv : VW) : Pw.A :=
  (A.seq (A.reg (RA.run RA.done))
   (A.seq (A.reg (Pw.rn 8 RA.done))
   A.leaf))
noncomputable def Rg_Mod_O (Kv : VW) : List Ob := (obs Try.prog Rg_Mod_E 12 (Rg_Mod_A Kv) Rg_Mod_C (fun _ => retQ Try.prog Try.f13.results Kv))
theorem Rg_Mod_e (Kv : VW) (n_0 m_1 : Int) (w : World) : Rg_Mod_sd n_0 m_1 (fun r0 w' => Kv (Value.int .i64 r0) w') w = W Try.prog Rg_Mod_E 12 (Rg_Mod_A Kv) Rg_Mod_C [] (retQ Try.prog Try.f13.results Kv) [] (startS [(Value.int .i64 n_0), (Value.int .i64 m_1)]) w := by kernel_rfl
theorem Rg_Mod_n (Kv : VW) : obAt (Rg_Mod_O Kv) 0 = none := by kernel_rfl
theorem Rg_Mod_h (Kv : VW) : ∀ k, holdsAt Try.prog Rg_Mod_E 12 (Rg_Mod_O Kv) k := fun _ => holdsAt_ge (Rg_Mod_n Kv) (Nat.zero_le _)
theorem Rg_Mod_ok : Sound Try.prog 13 Rg_Mod_S := ⟨Try.call13, fun vs w Kv h => by
  unfold Rg_Mod_S at h
  split at h
  · have h := h.out
    rw [Rg_Mod_e] at h
    exact calls_sound (Γ := Rg_Mod_E) progMixed trivial Try.func13 (code := Rg_Mod_C) (by kernel_rfl) (Rg_Mod_A Kv) Kv (holds_all (Rg_Mod_h Kv)) (Nat.le_of_ble_eq_true (by kernel_rfl)) h
  · exact h.elim⟩
end Go.Proofs.Ytmkjcheafdionaa
