/- The bodies' formulas, by program. -/
import Derived.Test.YtfpobpjandjhjaaDoorProg
import Derived.KernelRfl
import Derived.Test.YtfpobpjandjhjaaDoorPwY
import Derived.Test.YtfpobpjandjhjaaDoorCG0
set_option maxRecDepth 20000
namespace Go.Proofs.YtfpobpjandjhjaaDoor
open Go Pw
def z0s_sd (n_0 m_1:Int) (K:Pw.T1) (w:World):Prop :=
 m_1 ≠ 0/\inR .i64 ((Int.tmod n_0 m_1) + m_1)/\m_1 ≠ 0/\K (Int.tmod ((Int.tmod n_0 m_1) + m_1) m_1) w
structure z0s_sh (n_0 m_1:Int) (K:Pw.T1) (w:World):Prop where
 out:z0s_sd n_0 m_1 K w
noncomputable def z0s_S:Pw.Spec := fun vs w Kv=>un [tI, tI] (fun n_0 m_1=>z0s_sh n_0 m_1 (kk [tI] Kv)) nF vs w
def z0s_A (_:VW):A := (qr 1 (qr 8 ql))
theorem z0s_ok:Sound Tryd.prog 32 z0s_S := okS (x := z0s_A) (fun Kv n_0 m_1=>z0s_sd n_0 m_1 (kk [tI] Kv)) progMixed (Γ := []) trivial Tryd.call32 Tryd.func32 (fun _=>hEnd)
end Go.Proofs.YtfpobpjandjhjaaDoor
