/- The bodies' formulas, by program. -/
import Derived.Test.YtmkjcheafdionaaProg
import Derived.KernelRfl
import Derived.Test.YtmkjcheafdionaaPwX
import Derived.Test.YtmkjcheafdionaaCG0
set_option maxRecDepth 20000
namespace Go.Proofs.Ytmkjcheafdionaa
open Go Pw
local notation "vI" => Value.int IntKind.i64
local notation "vS" => Value.slice
local notation "vP" => Value.pointer
local notation "rR" => RA.run
local notation "rK" => RA.skp
local notation "aQ" => A.seq
/-! probityref01_Mod -/
def probityref01_Mod_sd (n_0 : Int) (m_1 : Int) (K : Int → World → Prop) (w : World) : Prop :=
  m_1 ≠ 0 ∧ inR .i64 ((Int.tmod n_0 m_1) + m_1) ∧ m_1 ≠ 0 ∧ K (Int.tmod ((Int.tmod n_0 m_1) + m_1) m_1) w
structure probityref01_Mod_sh (n_0 : Int) (m_1 : Int) (K : Int → World → Prop) (w : World) : Prop where
  out : probityref01_Mod_sd n_0 m_1 K w
noncomputable def probityref01_Mod_S : Pw.Spec := fun vs w Kv =>
  match vs with
  | [.int .i64 n_0, .int .i64 m_1] => probityref01_Mod_sh n_0 m_1 (fun (r0 : Int) (w' : World) => Kv (vI r0) w') w
  | _ => False
noncomputable def probityref01_Mod_E : Pw.Env := []
noncomputable def probityref01_Mod_C : Code := (Try.f13.body).getD .skip
noncomputable def probityref01_Mod_A (_Kv : VW) : Pw.A :=
  (aQ (A.reg (rR RA.done))
   (aQ (A.reg (rR (rR (rR (rR (rR (rR (rR (rR RA.done)))))))))
   A.leaf))
noncomputable def probityref01_Mod_O (Kv : VW) : List Ob := (obs Try.prog probityref01_Mod_E 12 (probityref01_Mod_A Kv) probityref01_Mod_C (fun _ => retQ Try.prog Try.f13.results Kv))
theorem probityref01_Mod_e (Kv : VW) (n_0 : Int) (m_1 : Int) (w : World) : probityref01_Mod_sd n_0 m_1 (fun (r0 : Int) (w' : World) => Kv (vI r0) w') w = W Try.prog probityref01_Mod_E 12 (probityref01_Mod_A Kv) probityref01_Mod_C [] (retQ Try.prog Try.f13.results Kv) [] (startS [(vI n_0), (vI m_1)]) w := by kernel_rfl
theorem probityref01_Mod_n (Kv : VW) : obAt (probityref01_Mod_O Kv) 0 = none := by kernel_rfl
theorem probityref01_Mod_h (Kv : VW) : ∀ k, holdsAt Try.prog probityref01_Mod_E 12 (probityref01_Mod_O Kv) k := fun _ => holdsAt_ge (probityref01_Mod_n Kv) (Nat.zero_le _)
theorem probityref01_Mod_ok : Sound Try.prog 13 probityref01_Mod_S := ⟨Try.call13, fun vs w Kv h => by
  unfold probityref01_Mod_S at h
  split at h
  · have h := h.out
    rw [probityref01_Mod_e] at h
    exact calls_sound (Γ := probityref01_Mod_E) progMixed trivial Try.func13 (code := probityref01_Mod_C) (by kernel_rfl) (probityref01_Mod_A Kv) Kv (holds_all (probityref01_Mod_h Kv)) (Nat.le_of_ble_eq_true (by kernel_rfl)) h
  · exact h.elim⟩
end Go.Proofs.Ytmkjcheafdionaa
