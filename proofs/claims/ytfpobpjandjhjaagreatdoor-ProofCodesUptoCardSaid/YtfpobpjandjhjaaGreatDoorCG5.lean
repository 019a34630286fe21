/- The bodies' formulas, by program. -/
import Derived.Test.YtfpobpjandjhjaaGreatDoorProg
import Derived.KernelRfl
import Derived.Test.YtfpobpjandjhjaaGreatDoorPwY
import Derived.Test.YtfpobpjandjhjaaGreatDoorCG0
import Derived.Test.YtfpobpjandjhjaaGreatDoorCG2
set_option maxRecDepth 20000
namespace Go.Proofs.YtfpobpjandjhjaaGreatDoor
open Go Pw
def z2g_b0 (a_0 b_1:Sl) (i_5:Int) (N0:Sl->Sl->Int->World->Prop) (K:Pw.T0) (w:World):Prop :=
 cnd (decide (i_5 < (a_0.l:Int)))
 (let w1 := w.drew
 nz a_0.p fun a2=>(0 <= i_5/\i_5 < (a_0.l:Nat))/\∃ x3:Int, w1.cell? (a2.add (i_5.toNat * 1))=some (Value.int .i64 x3)/\nz b_1.p fun a4=>(0 <= i_5/\i_5 < (b_1.l:Nat))/\∃ x5:Int, w1.cell? (a4.add (i_5.toNat * 1))=some (Value.int .i64 x5)/\cnd (x3 != x5)
 (K false w1)
 (inR .i64 (i_5 + (1:Int))/\N0 a_0 b_1 (i_5 + (1:Int)) w1))
 (K true w)
def z2g_l0d (a_0 b_1:Sl) (i_5:Int) (K:Pw.T0) (w:World):Prop :=
 ∃ (I:Int->World->Prop) (μ:Int->World->Nat), I i_5 w/\∀ (i_51:Int) (w1:World), I i_51 w1 ->
 z2g_b0 a_0 b_1 i_51 (fun a_0' b_1' i_5' w'=>((a_0'=a_0/\b_1'=b_1/\True)/\I i_5' w')/\μ i_5' w' < μ i_51 w1) K w1
structure z2g_l0 (a_0 b_1:Sl) (i_5:Int) (K:Pw.T0) (w:World):Prop where
 out:z2g_l0d a_0 b_1 i_5 K w
def z2g_sd (a_0 b_1:Sl) (K:Pw.T0) (w:World):Prop :=
 cnd ((a_0.l:Int) != (b_1.l:Int))
 (K false w)
 (z2g_l0 a_0 b_1 (0:Int) K w)
structure z2g_sh (a_0 b_1:Sl) (K:Pw.T0) (w:World):Prop where
 out:z2g_sd a_0 b_1 K w
def z2g_L0 (Kv:VW):Cur [tL, tL, tI] WP := fun a_0 b_1 i_5=>z2g_l0 a_0 b_1 i_5 (kk [tB] Kv)
noncomputable def z2g_S:Pw.Spec := fun vs w Kv=>un [tL, tL] (fun a_0 b_1=>z2g_sh a_0 b_1 (kk [tB] Kv)) nF vs w
def z2g_A (Kv:VW):A := (qr 1 (qs (qr 5 (qc (qr 1 ql) ql)) (qs (qr 1 (qb (A.loop [0, 1, 5] (uR0 [tL, tL, tI] (z2g_L0 Kv)) (qs (qr 4 (qc ql ql)) (qs (qb (qs (A.drp (dp [0, 1, 2, 3, 4, 5, 6, 7, 8] DA.done)) (qc (qr 1 ql) ql))) (qe 3)))))) (qr 1 ql))))
theorem z2g_ok:Sound Tryz.prog 24 z2g_S := okS (x := z2g_A) (fun Kv a_0 b_1=>z2g_sd a_0 b_1 (kk [tB] Kv)) progMixed (Γ := []) trivial Tryz.call24 Tryz.func24 (fun Kv=>hStep (hLoop0 (L := z2g_L0 Kv) (fun N0 a_0 b_1 i_5=>z2g_b0 a_0 b_1 i_5 N0 (kk [tB] Kv)) (fun ⟨a0, a1, _, _⟩ _ h=>let ⟨I, μ, h0, hr⟩ := h.out; ⟨fun b0 b1 b2 w=>(b0=a0/\b1=a1/\True)/\I b2 w, fun _ _ b2 w=>μ b2 w, ⟨⟨rfl, rfl, trivial⟩, h0⟩, fun ⟨_, _, _, _⟩ _ ⟨⟨e0, e1, _⟩, hI⟩=>by cases e0; cases e1; exact hr _ _ hI⟩)) <| hEnd)
end Go.Proofs.YtfpobpjandjhjaaGreatDoor
