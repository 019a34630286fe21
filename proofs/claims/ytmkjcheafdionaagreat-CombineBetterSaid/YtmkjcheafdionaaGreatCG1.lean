/- The bodies' formulas, by program. -/
import Derived.Test.YtmkjcheafdionaaGreatProg
import Derived.KernelRfl
import Derived.Test.YtmkjcheafdionaaGreatPwY
import Derived.Test.YtmkjcheafdionaaGreatCG0
set_option maxRecDepth 20000
namespace Go.Proofs.YtmkjcheafdionaaGreat
open Go Pw
def probityref01_Mod_sd (n_0 m_1 : Int) (K : Int -> World -> Prop) (w : World) : Prop :=
  m_1 ≠ 0 /\ inR .i64 ((Int.tmod n_0 m_1) + m_1) /\ m_1 ≠ 0 /\ K (Int.tmod ((Int.tmod n_0 m_1) + m_1) m_1) w
structure probityref01_Mod_sh (n_0 m_1 : Int) (K : Int -> World -> Prop) (w : World) : Prop where
  out : probityref01_Mod_sd n_0 m_1 K w
noncomputable def probityref01_Mod_S : Pw.Spec := fun vs w Kv => un [tI, tI] (fun n_0 m_1 => probityref01_Mod_sh n_0 m_1 (kk [tI] Kv)) nF vs w
def probityref01_Mod_A (_ : VW) : A := (qr 1 (qr 8 ql))
theorem probityref01_Mod_ok : Sound Tryz.prog 39 probityref01_Mod_S := okS (x := probityref01_Mod_A) (fun Kv n_0 m_1 => probityref01_Mod_sd n_0 m_1 (kk [tI] Kv)) progMixed (Γ := []) trivial Tryz.call39 Tryz.func39 (by kernel_rfl) (by kernel_rfl) (fun _ => hEnd (m := 0) (by kernel_rfl)) (fun _ ⟨_, _, _⟩ _ h => h.out) (fun _ => by kernel_rfl)
end Go.Proofs.YtmkjcheafdionaaGreat
