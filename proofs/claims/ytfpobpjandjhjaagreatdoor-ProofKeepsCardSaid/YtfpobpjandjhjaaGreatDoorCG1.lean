/- The bodies' formulas, by program. -/
import Derived.Test.YtfpobpjandjhjaaGreatDoorProg
import Derived.KernelRfl
import Derived.Test.YtfpobpjandjhjaaGreatDoorPwY
import Derived.Test.YtfpobpjandjhjaaGreatDoorCG0
set_option maxRecDepth 20000
namespace Go.Proofs.YtfpobpjandjhjaaGreatDoor
open Go Pw
def z2v_sd (n_0 m_1:Int)(K:Pw.T1)(w:World):Prop :=
 m_1≠0/\inR .i64 ((Int.tmod n_0 m_1)+m_1)/\m_1≠0/\K (Int.tmod ((Int.tmod n_0 m_1)+m_1) m_1) w
structure z2v_sh (n_0 m_1:Int)(K:Pw.T1)(w:World):Prop where
 out:z2v_sd n_0 m_1 K w
noncomputable def z2v_S:Pw.Spec:=fun vs w Kv=>un [tI,tI] (fun n_0 m_1=>z2v_sh n_0 m_1 (kk [tI] Kv)) nF vs w
def z2v_A (_:VW):A:=(qr 1 (qr 8 ql))
theorem z2v_ok:Sound Tryz.prog 35 z2v_S:=okS (x:=z2v_A) (fun Kv n_0 m_1=>z2v_sd n_0 m_1 (kk [tI] Kv)) progMixed (Γ:=[]) trivial Tryz.call35 Tryz.func35 (fun _=>hEnd)
end Go.Proofs.YtfpobpjandjhjaaGreatDoor
