/- The bodies' formulas, by program. -/
import Derived.Test.YtfkmpbpkahcogaaGreatDoorProg
import Derived.KernelRfl
import Derived.Test.YtfkmpbpkahcogaaGreatDoorPwY
import Derived.Test.YtfkmpbpkahcogaaGreatDoorDT
set_option maxRecDepth 20000
namespace Pw
open Go
abbrev T0 := Sl->World->Prop
abbrev T1 := Bool->World->Prop
abbrev T2 := Int->World->Prop
abbrev T3 := ByteArray->World->Prop
abbrev T4 := T43->World->Prop
abbrev T5 := ByteArray->Int->Int->ByteArray->Sl->World->Prop
abbrev T6 := Int->Int->Bool->World->Prop
abbrev T7 := Sl->Sl->World->Prop
abbrev T8 := Int->Int->World->Prop
abbrev T9 := Bool->Sl->World->Prop
abbrev T10 := Int->Bool->World->Prop
abbrev T11 := Option Nat->World->Prop
abbrev T12 := ByteArray->Bool->World->Prop
abbrev T13 := World->Prop
end Pw
namespace Go.Proofs.YtfkmpbpkahcogaaGreatDoor
open Go Pw
theorem progMixed:Tryz.prog.follows .mixedOrders=true := by kernel_rfl
def z35_sd (n_0:Int) (K:Pw.T2) (w:World):Prop :=
 cnd (decide (n_0 < (0:Int)))
 (K (IntKind.wrap .u64 ((0:Int) - (IntKind.wrap .u64 n_0))) w)
 (K (IntKind.wrap .u64 n_0) w)
structure z35_sh (n_0:Int) (K:Pw.T2) (w:World):Prop where
 out:z35_sd n_0 K w
noncomputable def z35_S:Pw.Spec := fun vs w Kv=>un [tI] (fun n_0=>z35_sh n_0 (kk [tU] Kv)) nF vs w
def z35_A (_:VW):A := (qr 1 (qs (qr 2 (qc (qs (A.reg (qn 1 (RA.raw (RA.raw (qn 1 RA.done))))) ql) ql)) (qs (A.reg (qn 1 (RA.raw (qn 1 RA.done)))) ql)))
theorem z35_ok:Sound Tryz.prog 147 z35_S := okS (x := z35_A) (fun Kv n_0=>z35_sd n_0 (kk [tU] Kv)) progMixed (Γ := []) trivial Tryz.call147 Tryz.func147 (fun _=>hEnd)
def z38_b0 (a_0 b_1:Int) (N0:Int->Int->World->Prop) (K:Pw.T2) (w:World):Prop :=
 cnd (decide (b_1 > (0:Int)))
 (let w1 := w.drew
 b_1 ≠ 0/\N0 b_1 (Int.tmod a_0 b_1) w1)
 (K a_0 w)
def z38_l0d (a_0 b_1:Int) (K:Pw.T2) (w:World):Prop :=
 ∃ (I:Int->Int->World->Prop) (μ:Int->Int->World->Nat), I a_0 b_1 w/\∀ (a_01 b_11:Int) (w1:World), I a_01 b_11 w1 ->
 z38_b0 a_01 b_11 (fun a_0' b_1' w'=>((True)/\I a_0' b_1' w')/\μ a_0' b_1' w' < μ a_01 b_11 w1) K w1
structure z38_l0 (a_0 b_1:Int) (K:Pw.T2) (w:World):Prop where
 out:z38_l0d a_0 b_1 K w
def z38_sd (a_0 b_1:Int) (K:Pw.T2) (w:World):Prop :=
 z38_l0 a_0 b_1 K w
structure z38_sh (a_0 b_1:Int) (K:Pw.T2) (w:World):Prop where
 out:z38_sd a_0 b_1 K w
def z38_L0 (Kv:VW):Cur [tU, tU] WP := fun a_0 b_1=>z38_l0 a_0 b_1 (kk [tU] Kv)
noncomputable def z38_S:Pw.Spec := fun vs w Kv=>un [tU, tU] (fun a_0 b_1=>z38_sh a_0 b_1 (kk [tU] Kv)) nF vs w
def z38_A (Kv:VW):A := (qr 1 (qs (qb (A.loop [0, 1] (uR0 [tU, tU] (z38_L0 Kv)) (qs (qr 2 (qc ql ql)) (qb (A.drp (dp [0, 1, 2, 3, 4, 5] DA.done)))))) (qr 2 ql)))
theorem z38_ok:Sound Tryz.prog 146 z38_S := okS (x := z38_A) (fun Kv a_0 b_1=>z38_sd a_0 b_1 (kk [tU] Kv)) progMixed (Γ := []) trivial Tryz.call146 Tryz.func146 (fun Kv=>hStep (hLoop0 (L := z38_L0 Kv) (fun N0 a_0 b_1=>z38_b0 a_0 b_1 N0 (kk [tU] Kv)) (fun ⟨_, _, _⟩ _ h=>let ⟨I, μ, h0, hr⟩ := h.out; ⟨fun b0 b1 w=>(True)/\I b0 b1 w, fun b0 b1 w=>μ b0 b1 w, ⟨trivial, h0⟩, fun ⟨_, _, _⟩ _ ⟨_, hI⟩=>by exact hr _ _ _ hI⟩)) <| hEnd)
def z2x_sd (a_0_0 a_0_1:Int) (K:Pw.T1) (w:World):Prop :=
 let w1 := w.alloc (Obj.cells #[(Value.int .i64 a_0_0), (Value.int .i64 a_0_1)] 35)
 let w2 := w1.drew
 ∃ S3:World->Prop, S3 w2/\∃ x4:Int, (∀ w':World, S3 w'->w'.cell? (Addr.mk w.heap.size 1 none)=some (Value.int .i64 x4))/\cnd (decide (x4 > (0:Int)))
 (∃ x5:Int, (∀ w':World, S3 w'->w'.cell? (Addr.mk w.heap.size 0 none)=some (Value.int .i64 x5))/\∃ x6:Int, (∀ w':World, S3 w'->w'.cell? (Addr.mk w.heap.size 1 none)=some (Value.int .i64 x6))/\inR .u64 x6/\z35_sh x5 (fun r8 w7=>S3 w7/\z38_sh r8 x6 (fun r10 w9=>S3 w9/\K (r10 == (1:Int)) w9) w7) w2)
 (K false w2)
structure z2x_sh (a_0_0 a_0_1:Int) (K:Pw.T1) (w:World):Prop where
 out:z2x_sd a_0_0 a_0_1 K w
noncomputable def z2x_S:Pw.Spec := fun vs w Kv=>un [.g 2, tI, tI] (fun a_0_0 a_0_1=>z2x_sh a_0_0 a_0_1 (kk [tB] Kv)) nF vs w
def z2x_A (_:VW):A := (qr 2 (qs (A.drw (dp [0, 1, 2, 3] (DA.spl 6 (dp [4, 5, 7, 8, 9] (DA.eff 6 (DA.eff 10 (dp [11, 12, 13] DA.done)))) (DA.skp 4 (DA.skp 5 (DA.skp 7 (DA.skp 8 (DA.skp 9 (DA.skp 6 (DA.skp 10 (DA.skp 11 (dp [12, 13] DA.done)))))))))))) ql))
theorem z2x_ok:Sound Tryz.prog 138 z2x_S := okS (x := z2x_A) (fun Kv a_0_0 a_0_1=>z2x_sd a_0_0 a_0_1 (kk [tB] Kv)) progMixed (Γ := [(146, z38_S), (147, z35_S)]) ⟨.inl z38_ok, .inl z35_ok, trivial⟩ Tryz.call138 Tryz.func138 (fun _=>hEnd)
end Go.Proofs.YtfkmpbpkahcogaaGreatDoor
