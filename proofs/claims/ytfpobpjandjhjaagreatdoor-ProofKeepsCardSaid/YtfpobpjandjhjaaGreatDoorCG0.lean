/- The bodies' formulas, by program. -/
import Derived.Test.YtfpobpjandjhjaaGreatDoorProg
import Derived.KernelRfl
import Derived.Test.YtfpobpjandjhjaaGreatDoorPwY
set_option maxRecDepth 20000
namespace Pw
open Go
abbrev T0:=Bool->World->Prop
abbrev T1:=Int->World->Prop
abbrev T2:=Sl->World->Prop
abbrev T3:=Int->Bool->World->Prop
abbrev T4:=Int->Int->Bool->World->Prop
abbrev T5:=Int->Int->World->Prop
abbrev T6:=ByteArray->World->Prop
abbrev T7:=Sl->Int->Int->Sl->Int->World->Prop
abbrev T8:=Sl->Sl->Sl->Int->Int->World->Prop
abbrev T9:=Sl->Int->Int->Sl->World->Prop
abbrev T10:=World->Prop
abbrev T11:=Bool->Sl->World->Prop
abbrev T12:=Sl->Sl->World->Prop
abbrev T13:=Int->Int->Int->Bool->World->Prop
abbrev T14:=Sl->Bool->World->Prop
abbrev T15:=Int->Int->Int->Sl->Bool->World->Prop
end Pw
namespace Go.Proofs.YtfpobpjandjhjaaGreatDoor
open Go Pw
theorem progMixed:Tryz.prog.follows .mixedOrders=true:=by kernel_rfl
def z4v_sd (n_0:Int)(K:Pw.T1)(w:World):Prop :=
 cnd (decide (n_0<(0:Int)))
 (K (IntKind.wrap .u64 ((0:Int)-(IntKind.wrap .u64 n_0))) w)
 (K (IntKind.wrap .u64 n_0) w)
structure z4v_sh (n_0:Int)(K:Pw.T1)(w:World):Prop where
 out:z4v_sd n_0 K w
noncomputable def z4v_S:Pw.Spec:=fun vs w Kv=>un [tI] (fun n_0=>z4v_sh n_0 (kk [tU] Kv)) nF vs w
def z4v_A (_:VW):A:=(qr 1 (qs (qr 2 (qc (qs (A.reg (qn 1 (RA.raw (RA.raw (qn 1 RA.done))))) ql) ql)) (qs (A.reg (qn 1 (RA.raw (qn 1 RA.done)))) ql)))
theorem z4v_ok:Sound Tryz.prog 74 z4v_S:=okS (x:=z4v_A) (fun Kv n_0=>z4v_sd n_0 (kk [tU] Kv)) progMixed (Γ:=[]) trivial Tryz.call74 Tryz.func74 (fun _=>hEnd)
def z51_b0 (a_0 b_1:Int)(N0:Int->Int->World->Prop)(K:Pw.T1)(w:World):Prop :=
 cnd (decide (b_1>(0:Int)))
 (let w1:=w.drew
 b_1≠0/\N0 b_1 (Int.tmod a_0 b_1) w1)
 (K a_0 w)
def z51_l0d (a_0 b_1:Int)(K:Pw.T1)(w:World):Prop :=
 ∃ (I:Int->Int->World->Prop) (μ:Int->Int->World->Nat),I a_0 b_1 w/\∀ (a_01 b_11:Int) (w1:World),I a_01 b_11 w1 ->
 z51_b0 a_01 b_11 (fun a_0' b_1' w'=>((True)/\I a_0' b_1' w')/\μ a_0' b_1' w'<μ a_01 b_11 w1) K w1
structure z51_l0 (a_0 b_1:Int)(K:Pw.T1)(w:World):Prop where
 out:z51_l0d a_0 b_1 K w
def z51_sd (a_0 b_1:Int)(K:Pw.T1)(w:World):Prop :=
 z51_l0 a_0 b_1 K w
structure z51_sh (a_0 b_1:Int)(K:Pw.T1)(w:World):Prop where
 out:z51_sd a_0 b_1 K w
def z51_L0 (Kv:VW):Cur [tU,tU] WP:=fun a_0 b_1=>z51_l0 a_0 b_1 (kk [tU] Kv)
noncomputable def z51_S:Pw.Spec:=fun vs w Kv=>un [tU,tU] (fun a_0 b_1=>z51_sh a_0 b_1 (kk [tU] Kv)) nF vs w
def z51_A (Kv:VW):A:=(qr 1 (qs (qb (A.loop [0,1] (uR0 [tU,tU] (z51_L0 Kv)) (qs (qr 2 (qc ql ql)) (qb (A.drp (dp [0,1,2,3,4,5] DA.done)))))) (qr 2 ql)))
theorem z51_ok:Sound Tryz.prog 73 z51_S:=okS (x:=z51_A) (fun Kv a_0 b_1=>z51_sd a_0 b_1 (kk [tU] Kv)) progMixed (Γ:=[]) trivial Tryz.call73 Tryz.func73 (fun Kv=>hStep (hLoop0 (L:=z51_L0 Kv) (fun N0 a_0 b_1=>z51_b0 a_0 b_1 N0 (kk [tU] Kv)) (fun⟨_,_,_⟩ _ h=>let ⟨I,μ,h0,hr⟩:=h.out; ⟨fun b0 b1 w=>(True)/\I b0 b1 w,fun b0 b1 w=>μ b0 b1 w,⟨trivial,h0⟩,fun⟨_,_,_⟩ _ ⟨_,hI⟩=>by exact hr _ _ _ hI⟩)) <| hEnd)
def z4j_sd (a_0_0 a_0_1:Int)(K:Pw.T0)(w:World):Prop :=
 let w1:=w.alloc (Obj.cells #[(Value.int .i64 a_0_0),(Value.int .i64 a_0_1)] 31)
 let w2:=w1.drew
 ∃ S3:World->Prop,S3 w2/\∃ x4:Int,(∀ w':World,S3 w'->w'.cell? (Addr.mk w.heap.size 1 none)=some (Value.int .i64 x4))/\cnd (decide (x4>(0:Int)))
 (∃ x5:Int,(∀ w':World,S3 w'->w'.cell? (Addr.mk w.heap.size 0 none)=some (Value.int .i64 x5))/\∃ x6:Int,(∀ w':World,S3 w'->w'.cell? (Addr.mk w.heap.size 1 none)=some (Value.int .i64 x6))/\inR .u64 x6/\z4v_sh x5 (fun r8 w7=>S3 w7/\z51_sh r8 x6 (fun r10 w9=>S3 w9/\K (r10 == (1:Int)) w9) w7) w2)
 (K false w2)
structure z4j_sh (a_0_0 a_0_1:Int)(K:Pw.T0)(w:World):Prop where
 out:z4j_sd a_0_0 a_0_1 K w
noncomputable def z4j_S:Pw.Spec:=fun vs w Kv=>un [.g 2,tI,tI] (fun a_0_0 a_0_1=>z4j_sh a_0_0 a_0_1 (kk [tB] Kv)) nF vs w
def z4j_A (_:VW):A:=(qr 2 (qs (A.drw (dp [0,1,2,3] (DA.spl 6 (dp [4,5,7,8,9] (DA.eff 6 (DA.eff 10 (dp [11,12,13] DA.done)))) (DA.skp 4 (DA.skp 5 (DA.skp 7 (DA.skp 8 (DA.skp 9 (DA.skp 6 (DA.skp 10 (DA.skp 11 (dp [12,13] DA.done)))))))))))) ql))
theorem z4j_ok:Sound Tryz.prog 38 z4j_S:=okS (x:=z4j_A) (fun Kv a_0_0 a_0_1=>z4j_sd a_0_0 a_0_1 (kk [tB] Kv)) progMixed (Γ:=[(73,z51_S),(74,z4v_S)]) ⟨.inl z51_ok,.inl z4v_ok,trivial⟩ Tryz.call38 Tryz.func38 (fun _=>hEnd)
def z55_sd (n_0:Int)(K:Pw.T5)(w:World):Prop :=
 let w1:=w.alloc (Obj.cells #[(Value.int .i64 0),(Value.int .i64 0)] 31)
 wrOk w1 (Addr.mk w.heap.size 0 none)/\
 (let w2:=w1.setCell (Addr.mk w.heap.size 0 none) (Value.int .i64 n_0)
 wrOk w2 (Addr.mk w.heap.size 1 none)/\
 (let w3:=w2.setCell (Addr.mk w.heap.size 1 none) (Value.int .i64 1)
 ∃ x4:Int,w3.cell? (Addr.mk w.heap.size 0 none)=some (Value.int .i64 x4)/\∃ x5:Int,w3.cell? (Addr.mk w.heap.size 1 none)=some (Value.int .i64 x5)/\K x4 x5 w3))
structure z55_sh (n_0:Int)(K:Pw.T5)(w:World):Prop where
 out:z55_sd n_0 K w
noncomputable def z55_S:Pw.Spec:=fun vs w Kv=>un [tI] (fun n_0=>z55_sh n_0 (kk [.g 2,tI,tI] Kv)) nF vs w
def z55_A (_:VW):A:=(qr 1 (qr 3 ql))
theorem z55_ok:Sound Tryz.prog 75 z55_S:=okS (x:=z55_A) (fun Kv n_0=>z55_sd n_0 (kk [.g 2,tI,tI] Kv)) progMixed (Γ:=[]) trivial Tryz.call75 Tryz.func75 (fun _=>hEnd)
def z4u_sd (a_0_0 a_0_1:Int)(b_1_0 b_1_1:Int)(K:Pw.T0)(w:World):Prop :=
 let w1:=w.alloc (Obj.cells #[(Value.int .i64 a_0_0),(Value.int .i64 a_0_1)] 31)
 let w2:=w1.alloc (Obj.cells #[(Value.int .i64 b_1_0),(Value.int .i64 b_1_1)] 31)
 ∃ x3:Int,w2.cell? (Addr.mk w.heap.size 0 none)=some (Value.int .i64 x3)/\∃ x4:Int,w2.cell? (Addr.mk w.heap.size 1 none)=some (Value.int .i64 x4)/\z4j_sh x3 x4 (fun r6 w5=>cnd r6
 (∃ x7:Int,w5.cell? (Addr.mk w1.heap.size 0 none)=some (Value.int .i64 x7)/\∃ x8:Int,w5.cell? (Addr.mk w1.heap.size 1 none)=some (Value.int .i64 x8)/\z4j_sh x7 x8 (fun r10 w9=>K r10 w9) w5)
 (K false w5)) w2
structure z4u_sh (a_0_0 a_0_1:Int)(b_1_0 b_1_1:Int)(K:Pw.T0)(w:World):Prop where
 out:z4u_sd a_0_0 a_0_1 b_1_0 b_1_1 K w
noncomputable def z4u_S:Pw.Spec:=fun vs w Kv=>un [.g 2,tI,tI,.g 2,tI,tI] (fun a_0_0 a_0_1 b_1_0 b_1_1=>z4u_sh a_0_0 a_0_1 b_1_0 b_1_1 (kk [tB] Kv)) nF vs w
def z4u_A (_:VW):A:=(qr 3 (qs (A.reg (qn 3 (RA.spl 7 (qn 4 RA.done) (qk 2 (qn 2 RA.done))))) ql))
theorem z4u_ok:Sound Tryz.prog 125 z4u_S:=okS (x:=z4u_A) (fun Kv a_0_0 a_0_1 b_1_0 b_1_1=>z4u_sd a_0_0 a_0_1 b_1_0 b_1_1 (kk [tB] Kv)) progMixed (Γ:=[(38,z4j_S)]) ⟨.inl z4j_ok,trivial⟩ Tryz.call125 Tryz.func125 (fun _=>hEnd)
def z4w_sd (K:Pw.T5)(w:World):Prop :=
 let w1:=w.alloc (Obj.cells #[(Value.int .i64 0),(Value.int .i64 0)] 31)
 wrOk w1 (Addr.mk w.heap.size 0 none)/\
 (let w2:=w1.setCell (Addr.mk w.heap.size 0 none) (Value.int .i64 0)
 wrOk w2 (Addr.mk w.heap.size 1 none)/\
 (let w3:=w2.setCell (Addr.mk w.heap.size 1 none) (Value.int .i64 1)
 ∃ x4:Int,w3.cell? (Addr.mk w.heap.size 0 none)=some (Value.int .i64 x4)/\∃ x5:Int,w3.cell? (Addr.mk w.heap.size 1 none)=some (Value.int .i64 x5)/\K x4 x5 w3))
structure z4w_sh (K:Pw.T5)(w:World):Prop where
 out:z4w_sd K w
noncomputable def z4w_S:Pw.Spec:=fun vs w Kv=>un [] (z4w_sh (kk [.g 2,tI,tI] Kv)) nF vs w
def z4w_A (_:VW):A:=(qr 1 (qr 2 ql))
theorem z4w_ok:Sound Tryz.prog 175 z4w_S:=okS (x:=z4w_A) (fun Kv=>z4w_sd (kk [.g 2,tI,tI] Kv)) progMixed (Γ:=[]) trivial Tryz.call175 Tryz.func175 (fun _=>hEnd)
def z56_sd (a_0_0 a_0_1:Int)(K:Bool->Int->Int->World->Prop)(w:World):Prop :=
 let w1:=w.alloc (Obj.cells #[(Value.int .i64 a_0_0),(Value.int .i64 a_0_1)] 31)
 let w2:=w1.alloc (Obj.cells #[(Value.bool false),(Value.int .u64 0),(Value.int .u64 0)] 169)
 let w3:=w2.drew
 ∃ S4:World->Prop,S4 w3/\∃ x5:Int,(∀ w':World,S4 w'->w'.cell? (Addr.mk w.heap.size 0 none)=some (Value.int .i64 x5))/\∃ x6:Int,(∀ w':World,S4 w'->w'.cell? (Addr.mk w.heap.size 0 none)=some (Value.int .i64 x6))/\∃ x7:Int,(∀ w':World,S4 w'->w'.cell? (Addr.mk w.heap.size 1 none)=some (Value.int .i64 x7))/\z4v_sh x6 (fun r9 w8=>S4 w8/\z4v_sh x7 (fun r11 w10=>S4 w10/\wrOk w10 (Addr.mk w1.heap.size 0 none)/\
 (let w12:=w10.setCell (Addr.mk w1.heap.size 0 none) (Value.bool (decide (x5<(0:Int))))
 wrOk w12 (Addr.mk w1.heap.size 1 none)/\
 (let w13:=w12.setCell (Addr.mk w1.heap.size 1 none) (Value.int .u64 r9)
 wrOk w13 (Addr.mk w1.heap.size 2 none)/\
 (let w14:=w13.setCell (Addr.mk w1.heap.size 2 none) (Value.int .u64 r11)
 ∃ x15:Bool,w14.cell? (Addr.mk w1.heap.size 0 none)=some (Value.bool x15)/\∃ x16:Int,w14.cell? (Addr.mk w1.heap.size 1 none)=some (Value.int .u64 x16)/\∃ x17:Int,w14.cell? (Addr.mk w1.heap.size 2 none)=some (Value.int .u64 x17)/\K x15 x16 x17 w14)))) w8) w3
structure z56_sh (a_0_0 a_0_1:Int)(K:Bool->Int->Int->World->Prop)(w:World):Prop where
 out:z56_sd a_0_0 a_0_1 K w
noncomputable def z56_S:Pw.Spec:=fun vs w Kv=>un [.g 2,tI,tI] (fun a_0_0 a_0_1=>z56_sh a_0_0 a_0_1 (kk [.g 3,tB,tU,tU] Kv)) nF vs w
def z56_A (_:VW):A:=(qr 2 (qs (A.drw (dp [0,1,2,3,4,6,7] (DA.eff 5 (DA.eff 8 (DA.pur 9 (DA.eff 10 DA.done)))))) ql))
theorem z56_ok:Sound Tryz.prog 126 z56_S:=okS (x:=z56_A) (fun Kv a_0_0 a_0_1=>z56_sd a_0_0 a_0_1 (kk [.g 3,tB,tU,tU] Kv)) progMixed (Γ:=[(74,z4v_S)]) ⟨.inl z4v_ok,trivial⟩ Tryz.call126 Tryz.func126 (fun _=>hEnd)
def z3s_sd (a_0_0 a_0_1:Int)(b_1_0 b_1_1:Int)(run_2:Value)(K:Pw.T4)(w:World):Prop :=
 let w1:=w.alloc (Obj.cells #[(Value.int .i64 a_0_0),(Value.int .i64 a_0_1)] 31)
 let w2:=w1.alloc (Obj.cells #[(Value.int .i64 b_1_0),(Value.int .i64 b_1_1)] 31)
 let w3:=w2.alloc (Obj.cells #[(Value.int .i64 0),(Value.int .i64 0)] 31)
 ∃ x4:Int,w3.cell? (Addr.mk w.heap.size 0 none)=some (Value.int .i64 x4)/\∃ x5:Int,w3.cell? (Addr.mk w.heap.size 1 none)=some (Value.int .i64 x5)/\∃ x6:Int,w3.cell? (Addr.mk w1.heap.size 0 none)=some (Value.int .i64 x6)/\∃ x7:Int,w3.cell? (Addr.mk w1.heap.size 1 none)=some (Value.int .i64 x7)/\z4u_sh x4 x5 x6 x7 (fun r9 w8=>cnd (!r9)
 (z4w_sh (fun r11_0 r11_1 w10=>wrOk w10 (Addr.mk w2.heap.size 0 none)/\
 (let w12:=w10.setCell (Addr.mk w2.heap.size 0 none) (Value.int .i64 r11_0)
 wrOk w12 (Addr.mk w2.heap.size 1 none)/\
 (let w13:=w12.setCell (Addr.mk w2.heap.size 1 none) (Value.int .i64 r11_1)
 ∃ x14:Int,w13.cell? (Addr.mk w2.heap.size 0 none)=some (Value.int .i64 x14)/\∃ x15:Int,w13.cell? (Addr.mk w2.heap.size 1 none)=some (Value.int .i64 x15)/\K x14 x15 false w13))) w8)
 (let w16:=w8.drew
 ∃ S17:World->Prop,S17 w16/\∃ x18:Int,(∀ w':World,S17 w'->w'.cell? (Addr.mk w.heap.size 0 none)=some (Value.int .i64 x18))/\∃ x19:Int,(∀ w':World,S17 w'->w'.cell? (Addr.mk w.heap.size 1 none)=some (Value.int .i64 x19))/\∃ x20:Int,(∀ w':World,S17 w'->w'.cell? (Addr.mk w1.heap.size 0 none)=some (Value.int .i64 x20))/\∃ x21:Int,(∀ w':World,S17 w'->w'.cell? (Addr.mk w1.heap.size 1 none)=some (Value.int .i64 x21))/\z56_sh x18 x19 (fun r23_0 r23_1 r23_2 w22=>S17 w22/\z56_sh x20 x21 (fun r25_0 r25_1 r25_2 w24=>S17 w24/\CallV Tryz.prog run_2 [(Value.agg #[(Value.bool r23_0),(Value.int .u64 r23_1),(Value.int .u64 r23_2)]),(Value.agg #[(Value.bool r25_0),(Value.int .u64 r25_1),(Value.int .u64 r25_2)])] w24 fun u26 w27=>∃ x29:Int,∃ x30:Int,∃ x31:Bool,u26=(Value.tuple #[(Value.agg #[(Value.int .i64 x29),(Value.int .i64 x30)]),(Value.bool x31)])/\S17 w27/\wrOk w27 (Addr.mk w2.heap.size 0 none)/\
 (let w32:=w27.setCell (Addr.mk w2.heap.size 0 none) (Value.int .i64 x29)
 wrOk w32 (Addr.mk w2.heap.size 1 none)/\
 (let w33:=w32.setCell (Addr.mk w2.heap.size 1 none) (Value.int .i64 x30)
 ∃ x34:Int,w33.cell? (Addr.mk w2.heap.size 0 none)=some (Value.int .i64 x34)/\∃ x35:Int,w33.cell? (Addr.mk w2.heap.size 1 none)=some (Value.int .i64 x35)/\K x34 x35 x31 w33))) w22) w16)) w3
structure z3s_sh (a_0_0 a_0_1:Int)(b_1_0 b_1_1:Int)(run_2:Value)(K:Pw.T4)(w:World):Prop where
 out:z3s_sd a_0_0 a_0_1 b_1_0 b_1_1 run_2 K w
noncomputable def z3s_S:Pw.Spec:=fun vs w Kv=>un [.g 2,tI,tI,.g 2,tI,tI,tV] (fun a_0_0 a_0_1 b_1_0 b_1_1 run_2=>z3s_sh a_0_0 a_0_1 b_1_0 b_1_1 run_2 (kk [.u 2,.g 2,tI,tI,tB] Kv)) nF vs w
def z3s_A (_:VW):A:=(qr 4 (qs (qr 4 (qc (qr 3 ql) ql)) (qs (A.drw (dp [0,1,3] (DA.eff 2 (DA.eff 4 (DA.dyn 5 (Value.tuple #[(Value.agg #[(Value.int .i64 0),(Value.int .i64 0)]),(Value.bool false)]) (dp [6,7] (DA.eff 8 (DA.pur 9 DA.done)))))))) ql)))
theorem z3s_ok:Sound Tryz.prog 130 z3s_S:=okS (x:=z3s_A) (fun Kv a_0_0 a_0_1 b_1_0 b_1_1 run_2=>z3s_sd a_0_0 a_0_1 b_1_0 b_1_1 run_2 (kk [.u 2,.g 2,tI,tI,tB] Kv)) progMixed (Γ:=[(125,z4u_S),(126,z56_S),(175,z4w_S)]) ⟨.inl z4u_ok,.inl z56_ok,.inl z4w_ok,trivial⟩ Tryz.call130 Tryz.func130 (fun _=>hEnd)
def z4p_sd (x_0 y_1:Int)(K:Pw.T5)(w:World):Prop :=
 0<=(32:Int)/\0<=(32:Int)/\0<=(32:Int)/\0<=(32:Int)/\0<=(32:Int)/\K (IntKind.wrap .u64 ((IntKind.wrap .u64 ((IntKind.wrap .u64 ((Int.fdiv x_0 (2^(min 32 (IntKind.bits .u64))))*(Int.fdiv y_1 (2^(min 32 (IntKind.bits .u64))))))+(Int.fdiv (IntKind.wrap .u64 ((IntKind.wrap .u64 ((Int.fdiv x_0 (2^(min 32 (IntKind.bits .u64))))*(IntKind.wrap .u64 (((BitVec.ofInt (IntKind.bits .u64) y_1 &&& BitVec.ofInt (IntKind.bits .u64) (4294967295:Int))).toNat:Int))))+(Int.fdiv (IntKind.wrap .u64 ((IntKind.wrap .u64 (((BitVec.ofInt (IntKind.bits .u64) x_0 &&& BitVec.ofInt (IntKind.bits .u64) (4294967295:Int))).toNat:Int))*(IntKind.wrap .u64 (((BitVec.ofInt (IntKind.bits .u64) y_1 &&& BitVec.ofInt (IntKind.bits .u64) (4294967295:Int))).toNat:Int)))) (2^(min 32 (IntKind.bits .u64)))))) (2^(min 32 (IntKind.bits .u64))))))+(Int.fdiv (IntKind.wrap .u64 ((IntKind.wrap .u64 (((BitVec.ofInt (IntKind.bits .u64) (IntKind.wrap .u64 ((IntKind.wrap .u64 ((Int.fdiv x_0 (2^(min 32 (IntKind.bits .u64))))*(IntKind.wrap .u64 (((BitVec.ofInt (IntKind.bits .u64) y_1 &&& BitVec.ofInt (IntKind.bits .u64) (4294967295:Int))).toNat:Int))))+(Int.fdiv (IntKind.wrap .u64 ((IntKind.wrap .u64 (((BitVec.ofInt (IntKind.bits .u64) x_0 &&& BitVec.ofInt (IntKind.bits .u64) (4294967295:Int))).toNat:Int))*(IntKind.wrap .u64 (((BitVec.ofInt (IntKind.bits .u64) y_1 &&& BitVec.ofInt (IntKind.bits .u64) (4294967295:Int))).toNat:Int)))) (2^(min 32 (IntKind.bits .u64)))))) &&& BitVec.ofInt (IntKind.bits .u64) (4294967295:Int))).toNat:Int))+(IntKind.wrap .u64 ((IntKind.wrap .u64 (((BitVec.ofInt (IntKind.bits .u64) x_0 &&& BitVec.ofInt (IntKind.bits .u64) (4294967295:Int))).toNat:Int))*(Int.fdiv y_1 (2^(min 32 (IntKind.bits .u64)))))))) (2^(min 32 (IntKind.bits .u64)))))) (IntKind.wrap .u64 (x_0*y_1)) w
structure z4p_sh (x_0 y_1:Int)(K:Pw.T5)(w:World):Prop where
 out:z4p_sd x_0 y_1 K w
noncomputable def z4p_S:Pw.Spec:=fun vs w Kv=>un [tU,tU] (fun x_0 y_1=>z4p_sh x_0 y_1 (kk [.u 2,tU,tU] Kv)) nF vs w
def z4p_A (_:VW):A:=(qr 2 (qr 3 (qr 3 (qr 3 (qr 3 (qs (A.reg (qn 2 (RA.raw (qn 1 RA.done)))) (qs (A.reg (qn 2 (RA.raw (qn 2 (RA.raw (qn 1 RA.done)))))) (qr 3 (qr 3 (qs (A.reg (qn 3 (RA.raw (RA.raw (qn 1 RA.done))))) (qs (A.reg (qn 2 (RA.raw (qn 1 (RA.raw (qn 2 (RA.raw (qn 1 RA.done)))))))) (qs (A.reg (qn 2 (RA.raw (qn 1 RA.done)))) ql))))))))))))
theorem z4p_ok:Sound Tryz.prog 154 z4p_S:=okS (x:=z4p_A) (fun Kv x_0 y_1=>z4p_sd x_0 y_1 (kk [.u 2,tU,tU] Kv)) progMixed (Γ:=[]) trivial Tryz.call154 Tryz.func154 (fun _=>hEnd)
def z3u_sd (a_0 b_1:Int)(K:Pw.T5)(w:World):Prop :=
 let w1:=w.alloc (Obj.cells #[(Value.int .u64 0),(Value.int .u64 0)] 173)
 z4p_sh a_0 b_1 (fun r3 r4 w2=>wrOk w2 (Addr.mk w.heap.size 0 none)/\
 (let w5:=w2.setCell (Addr.mk w.heap.size 0 none) (Value.int .u64 r3)
 wrOk w5 (Addr.mk w.heap.size 1 none)/\
 (let w6:=w5.setCell (Addr.mk w.heap.size 1 none) (Value.int .u64 r4)
 ∃ x7:Int,w6.cell? (Addr.mk w.heap.size 0 none)=some (Value.int .u64 x7)/\∃ x8:Int,w6.cell? (Addr.mk w.heap.size 1 none)=some (Value.int .u64 x8)/\K x7 x8 w6))) w1
structure z3u_sh (a_0 b_1:Int)(K:Pw.T5)(w:World):Prop where
 out:z3u_sd a_0 b_1 K w
noncomputable def z3u_S:Pw.Spec:=fun vs w Kv=>un [tU,tU] (fun a_0 b_1=>z3u_sh a_0 b_1 (kk [.g 2,tU,tU] Kv)) nF vs w
def z3u_A (_:VW):A:=(qr 1 (qr 8 (qr 4 ql)))
theorem z3u_ok:Sound Tryz.prog 129 z3u_S:=okS (x:=z3u_A) (fun Kv a_0 b_1=>z3u_sd a_0 b_1 (kk [.g 2,tU,tU] Kv)) progMixed (Γ:=[(154,z4p_S)]) ⟨.inl z4p_ok,trivial⟩ Tryz.call129 Tryz.func129 (fun _=>hEnd)
def z52_k0d (t_6:Addr)(K:Pw.T4)(w:World):Prop :=
 z4w_sh (fun r10_0 r10_1 w9=>wrOk w9 t_6/\
 (let w11:=w9.setCell t_6 (Value.int .i64 r10_0)
 wrOk w11 (t_6.add 1)/\
 (let w12:=w11.setCell (t_6.add 1) (Value.int .i64 r10_1)
 ∃ x13:Int,w12.cell? t_6=some (Value.int .i64 x13)/\∃ x14:Int,w12.cell? (t_6.add 1)=some (Value.int .i64 x14)/\K x13 x14 false w12))) w
structure z52_k0 (t_6:Addr)(K:Pw.T4)(w:World):Prop where
 out:z52_k0d t_6 K w
def z52_k2d (d_5 t_6:Addr)(num_8:Int)(K:Pw.T4)(w:World):Prop :=
 ∃ x16:Int,w.cell? (d_5.add 1)=some (Value.int .u64 x16)/\wrOk w t_6/\
 (let w17:=w.setCell t_6 (Value.int .i64 num_8)
 wrOk w17 (t_6.add 1)/\
 (let w18:=w17.setCell (t_6.add 1) (Value.int .i64 (IntKind.wrap .i64 x16))
 ∃ x19:Int,w18.cell? t_6=some (Value.int .i64 x19)/\∃ x20:Int,w18.cell? (t_6.add 1)=some (Value.int .i64 x20)/\K x19 x20 true w18))
structure z52_k2 (d_5 t_6:Addr)(num_8:Int)(K:Pw.T4)(w:World):Prop where
 out:z52_k2d d_5 t_6 num_8 K w
def z52_k1d (neg_0:Bool)(n_4 d_5 t_6:Addr)(K:Pw.T4)(w:World):Prop :=
 ∃ x15:Int,w.cell? (n_4.add 1)=some (Value.int .u64 x15)/\cnd neg_0
 (z52_k2 d_5 t_6 (IntKind.wrap .i64 ((0:Int)-(IntKind.wrap .i64 x15))) K w)
 (z52_k2 d_5 t_6 (IntKind.wrap .i64 x15) K w)
structure z52_k1 (neg_0:Bool)(n_4 d_5 t_6:Addr)(K:Pw.T4)(w:World):Prop where
 out:z52_k1d neg_0 n_4 d_5 t_6 K w
def z52_sd (neg_0:Bool)(n_1_0 n_1_1:Int)(d_2_0 d_2_1:Int)(K:Pw.T4)(w:World):Prop :=
 let w1:=w.alloc (Obj.cells #[(Value.int .u64 n_1_0),(Value.int .u64 n_1_1)] 173)
 let w2:=w1.alloc (Obj.cells #[(Value.int .u64 d_2_0),(Value.int .u64 d_2_1)] 173)
 let w3:=w2.alloc (Obj.cells #[(Value.int .i64 0),(Value.int .i64 0)] 31)
 ∃ x4:Int,w3.cell? (Addr.mk w.heap.size 0 none)=some (Value.int .u64 x4)/\cnd (decide (x4>(0:Int)))
 (z52_k0 (Addr.mk w2.heap.size 0 none) K w3)
 (∃ x5:Int,w3.cell? (Addr.mk w1.heap.size 0 none)=some (Value.int .u64 x5)/\cnd (decide (x5>(0:Int)))
 (z52_k0 (Addr.mk w2.heap.size 0 none) K w3)
 (∃ x6:Int,w3.cell? (Addr.mk w1.heap.size 1 none)=some (Value.int .u64 x6)/\cnd (decide (x6>(9223372036854775807:Int)))
 (z52_k0 (Addr.mk w2.heap.size 0 none) K w3)
 (∃ x7:Int,w3.cell? (Addr.mk w.heap.size 1 none)=some (Value.int .u64 x7)/\cnd (decide (x7>(9223372036854775808:Int)))
 (z52_k0 (Addr.mk w2.heap.size 0 none) K w3)
 (∃ x8:Int,w3.cell? (Addr.mk w.heap.size 1 none)=some (Value.int .u64 x8)/\cnd (x8 == (9223372036854775808:Int))
 (cnd (!neg_0)
 (z52_k0 (Addr.mk w2.heap.size 0 none) K w3)
 (z52_k1 neg_0 (Addr.mk w.heap.size 0 none) (Addr.mk w1.heap.size 0 none) (Addr.mk w2.heap.size 0 none) K w3))
 (z52_k1 neg_0 (Addr.mk w.heap.size 0 none) (Addr.mk w1.heap.size 0 none) (Addr.mk w2.heap.size 0 none) K w3)))))
structure z52_sh (neg_0:Bool)(n_1_0 n_1_1:Int)(d_2_0 d_2_1:Int)(K:Pw.T4)(w:World):Prop where
 out:z52_sd neg_0 n_1_0 n_1_1 d_2_0 d_2_1 K w
def z52_L0 (Kv:VW):Cur [tQ] WP:=fun t_6=>z52_k0 t_6 (kk [.u 2,.g 2,tI,tI,tB] Kv)
def z52_L1 (Kv:VW):Cur [tB,tQ,tQ,tQ] WP:=fun neg_0 n_4 d_5 t_6=>z52_k1 neg_0 n_4 d_5 t_6 (kk [.u 2,.g 2,tI,tI,tB] Kv)
def z52_L2 (Kv:VW):Cur [tQ,tQ,tI] WP:=fun d_5 t_6 num_8=>z52_k2 d_5 t_6 num_8 (kk [.u 2,.g 2,tI,tI,tB] Kv)
noncomputable def z52_S:Pw.Spec:=fun vs w Kv=>un [tB,.g 2,tU,tU,.g 2,tU,tU] (fun neg_0 n_1_0 n_1_1 d_2_0 d_2_1=>z52_sh neg_0 n_1_0 n_1_1 d_2_0 d_2_1 (kk [.u 2,.g 2,tI,tI,tB] Kv)) nF vs w
def z52_A (Kv:VW):A:=(qr 4 (qs (qs (A.reg (qn 4 (RA.spl 12 (qk 3 (qn 2 (qk 3 (qn 2 (qk 3 (qn 2 (qk 7 (qn 1 RA.done)))))))) (qn 5 (RA.spl 17 (qk 3 (qn 2 (qk 3 (qn 2 (qk 7 (qn 1 RA.done)))))) (qn 5 (RA.spl 22 (qk 3 (qn 2 (qk 7 (qn 1 RA.done)))) (qn 5 (RA.spl 27 (qk 7 (qn 1 RA.done)) (qn 4 (RA.spl 31 (qn 4 RA.done) (qk 2 (qn 2 RA.done))))))))))))) (qc (A.cut [6] (uR0 [tQ] (z52_L0 Kv)) (qr 3 ql)) ql)) (A.cut [0,4,5,6] (uR0 [tB,tQ,tQ,tQ] (z52_L1 Kv)) (qs (A.reg (qn 2 (RA.raw (qn 1 RA.done)))) (qs (qr 1 (qc (A.reg (qn 1 (RA.raw (qn 1 RA.done)))) ql)) (A.cut [5,6,8] (uR0 [tQ,tQ,tI] (z52_L2 Kv)) (qs (A.reg (qn 3 (RA.raw (qn 3 RA.done)))) ql)))))))
theorem z52_ok:Sound Tryz.prog 179 z52_S:=okS (x:=z52_A) (fun Kv neg_0 n_1_0 n_1_1 d_2_0 d_2_1=>z52_sd neg_0 n_1_0 n_1_1 d_2_0 d_2_1 (kk [.u 2,.g 2,tI,tI,tB] Kv)) progMixed (Γ:=[(175,z4w_S)]) ⟨.inl z4w_ok,trivial⟩ Tryz.call179 Tryz.func179 (fun Kv=>hStep (hCut0 (F:=z52_L0 Kv) (G:=fun t_6=>z52_k0d t_6 (kk [.u 2,.g 2,tI,tI,tB] Kv))) <| hStep (hCut0 (F:=z52_L1 Kv) (G:=fun neg_0 n_4 d_5 t_6=>z52_k1d neg_0 n_4 d_5 t_6 (kk [.u 2,.g 2,tI,tI,tB] Kv))) <| hStep (hCut0 (F:=z52_L2 Kv) (G:=fun d_5 t_6 num_8=>z52_k2d d_5 t_6 num_8 (kk [.u 2,.g 2,tI,tI,tB] Kv))) <| hEnd)
def z4k_k0d (t_4:Addr)(K:Pw.T4)(w:World):Prop :=
 z4w_sh (fun r7_0 r7_1 w6=>wrOk w6 t_4/\
 (let w8:=w6.setCell t_4 (Value.int .i64 r7_0)
 wrOk w8 (t_4.add 1)/\
 (let w9:=w8.setCell (t_4.add 1) (Value.int .i64 r7_1)
 ∃ x10:Int,w9.cell? t_4=some (Value.int .i64 x10)/\∃ x11:Int,w9.cell? (t_4.add 1)=some (Value.int .i64 x11)/\K x10 x11 true w9))) w
structure z4k_k0 (t_4:Addr)(K:Pw.T4)(w:World):Prop where
 out:z4k_k0d t_4 K w
def z4k_sd (x_0_0:Bool)(x_0_1 x_0_2:Int)(y_1_0:Bool)(y_1_1 y_1_2:Int)(K:Pw.T4)(w:World):Prop :=
 let w1:=w.alloc (Obj.cells #[(Value.bool x_0_0),(Value.int .u64 x_0_1),(Value.int .u64 x_0_2)] 169)
 let w2:=w1.alloc (Obj.cells #[(Value.bool y_1_0),(Value.int .u64 y_1_1),(Value.int .u64 y_1_2)] 169)
 let w3:=w2.alloc (Obj.cells #[(Value.int .i64 0),(Value.int .i64 0)] 31)
 ∃ x4:Int,w3.cell? (Addr.mk w.heap.size 1 none)=some (Value.int .u64 x4)/\cnd (x4 == (0:Int))
 (z4k_k0 (Addr.mk w2.heap.size 0 none) K w3)
 (∃ x5:Int,w3.cell? (Addr.mk w1.heap.size 1 none)=some (Value.int .u64 x5)/\cnd (x5 == (0:Int))
 (z4k_k0 (Addr.mk w2.heap.size 0 none) K w3)
 (let w12:=w3.drew
 ∃ S13:World->Prop,S13 w12/\∃ x14:Int,(∀ w':World,S13 w'->w'.cell? (Addr.mk w.heap.size 1 none)=some (Value.int .u64 x14))/\∃ x15:Int,(∀ w':World,S13 w'->w'.cell? (Addr.mk w1.heap.size 2 none)=some (Value.int .u64 x15))/\∃ x16:Int,(∀ w':World,S13 w'->w'.cell? (Addr.mk w1.heap.size 1 none)=some (Value.int .u64 x16))/\∃ x17:Int,(∀ w':World,S13 w'->w'.cell? (Addr.mk w.heap.size 2 none)=some (Value.int .u64 x17))/\z51_sh x14 x15 (fun r19 w18=>S13 w18/\z51_sh x16 x17 (fun r21 w20=>S13 w20/\let w22:=w20.drew
 ∃ S23:World->Prop,S23 w22/\∃ x24:Bool,(∀ w':World,S23 w'->w'.cell? (Addr.mk w.heap.size 0 none)=some (Value.bool x24))/\∃ x25:Bool,(∀ w':World,S23 w'->w'.cell? (Addr.mk w1.heap.size 0 none)=some (Value.bool x25))/\∃ x26:Int,(∀ w':World,S23 w'->w'.cell? (Addr.mk w.heap.size 1 none)=some (Value.int .u64 x26))/\r19≠0/\inR .u64 (Int.tdiv x26 r19)/\∃ x27:Int,(∀ w':World,S23 w'->w'.cell? (Addr.mk w1.heap.size 1 none)=some (Value.int .u64 x27))/\r21≠0/\inR .u64 (Int.tdiv x27 r21)/\∃ x28:Int,(∀ w':World,S23 w'->w'.cell? (Addr.mk w.heap.size 2 none)=some (Value.int .u64 x28))/\r21≠0/\inR .u64 (Int.tdiv x28 r21)/\∃ x29:Int,(∀ w':World,S23 w'->w'.cell? (Addr.mk w1.heap.size 2 none)=some (Value.int .u64 x29))/\r19≠0/\inR .u64 (Int.tdiv x29 r19)/\z3u_sh (Int.tdiv x26 r19) (Int.tdiv x27 r21) (fun r31_0 r31_1 w30=>S23 w30/\z3u_sh (Int.tdiv x28 r21) (Int.tdiv x29 r19) (fun r33_0 r33_1 w32=>S23 w32/\z52_sh (!(x24 == x25)) r31_0 r31_1 r33_0 r33_1 (fun r35_0 r35_1 r36 w34=>S23 w34/\wrOk w34 (Addr.mk w2.heap.size 0 none)/\
 (let w37:=w34.setCell (Addr.mk w2.heap.size 0 none) (Value.int .i64 r35_0)
 wrOk w37 (Addr.mk w2.heap.size 1 none)/\
 (let w38:=w37.setCell (Addr.mk w2.heap.size 1 none) (Value.int .i64 r35_1)
 ∃ x39:Int,w38.cell? (Addr.mk w2.heap.size 0 none)=some (Value.int .i64 x39)/\∃ x40:Int,w38.cell? (Addr.mk w2.heap.size 1 none)=some (Value.int .i64 x40)/\K x39 x40 r36 w38))) w32) w30) w22) w18) w12))
structure z4k_sh (x_0_0:Bool)(x_0_1 x_0_2:Int)(y_1_0:Bool)(y_1_1 y_1_2:Int)(K:Pw.T4)(w:World):Prop where
 out:z4k_sd x_0_0 x_0_1 x_0_2 y_1_0 y_1_1 y_1_2 K w
def z4k_L0 (Kv:VW):Cur [tQ] WP:=fun t_4=>z4k_k0 t_4 (kk [.u 2,.g 2,tI,tI,tB] Kv)
noncomputable def z4k_S:Pw.Spec:=fun vs w Kv=>un [.g 3,tB,tU,tU,.g 3,tB,tU,tU] (fun x_0_0 x_0_1 x_0_2 y_1_0 y_1_1 y_1_2=>z4k_sh x_0_0 x_0_1 x_0_2 y_1_0 y_1_1 y_1_2 (kk [.u 2,.g 2,tI,tI,tB] Kv)) nF vs w
def z4k_A (Kv:VW):A:=(qr 4 (qs (qs (A.reg (qn 4 (RA.spl 11 (qk 3 (qn 1 RA.done)) (qn 4 RA.done)))) (qc (A.cut [4] (uR0 [tQ] (z4k_L0 Kv)) (qr 3 ql)) ql)) (qs (A.drw (dp [0,1,2,3,5,6,7,8] (DA.eff 4 (DA.eff 9 (dp [10,11] DA.done))))) (qs (A.drw (dp [0,1,2,3,4,5,6,7,8,9,10,11,12,14,15,16,17,18,19,20,21] (DA.eff 13 (DA.eff 22 (DA.eff 23 (dp [24,25] (DA.eff 26 (DA.pur 27 DA.done)))))))) ql))))
theorem z4k_ok:Sound Tryz.prog 172 z4k_S:=okS (x:=z4k_A) (fun Kv x_0_0 x_0_1 x_0_2 y_1_0 y_1_1 y_1_2=>z4k_sd x_0_0 x_0_1 x_0_2 y_1_0 y_1_1 y_1_2 (kk [.u 2,.g 2,tI,tI,tB] Kv)) progMixed (Γ:=[(73,z51_S),(129,z3u_S),(175,z4w_S),(179,z52_S)]) ⟨.inl z51_ok,.inl z3u_ok,.inl z4w_ok,.inl z52_ok,trivial⟩ Tryz.call172 Tryz.func172 (fun Kv=>hStep (hCut0 (F:=z4k_L0 Kv) (G:=fun t_4=>z4k_k0d t_4 (kk [.u 2,.g 2,tI,tI,tB] Kv))) <| hEnd)
def z50_sd (a_0_0 a_0_1:Int)(b_1_0 b_1_1:Int)(K:Pw.T4)(w:World):Prop :=
 let w1:=w.alloc (Obj.cells #[(Value.int .i64 a_0_0),(Value.int .i64 a_0_1)] 31)
 let w2:=w1.alloc (Obj.cells #[(Value.int .i64 b_1_0),(Value.int .i64 b_1_1)] 31)
 let w3:=w2.alloc (Obj.cells #[(Value.int .i64 0),(Value.int .i64 0)] 31)
 ∃ x4:Int,w3.cell? (Addr.mk w.heap.size 0 none)=some (Value.int .i64 x4)/\∃ x5:Int,w3.cell? (Addr.mk w.heap.size 1 none)=some (Value.int .i64 x5)/\∃ x6:Int,w3.cell? (Addr.mk w1.heap.size 0 none)=some (Value.int .i64 x6)/\∃ x7:Int,w3.cell? (Addr.mk w1.heap.size 1 none)=some (Value.int .i64 x7)/\z3s_sh x4 x5 x6 x7 (Value.func (.func 172) #[] #[]) (fun r9_0 r9_1 r10 w8=>wrOk w8 (Addr.mk w2.heap.size 0 none)/\
 (let w11:=w8.setCell (Addr.mk w2.heap.size 0 none) (Value.int .i64 r9_0)
 wrOk w11 (Addr.mk w2.heap.size 1 none)/\
 (let w12:=w11.setCell (Addr.mk w2.heap.size 1 none) (Value.int .i64 r9_1)
 ∃ x13:Int,w12.cell? (Addr.mk w2.heap.size 0 none)=some (Value.int .i64 x13)/\∃ x14:Int,w12.cell? (Addr.mk w2.heap.size 1 none)=some (Value.int .i64 x14)/\K x13 x14 r10 w12))) w3
structure z50_sh (a_0_0 a_0_1:Int)(b_1_0 b_1_1:Int)(K:Pw.T4)(w:World):Prop where
 out:z50_sd a_0_0 a_0_1 b_1_0 b_1_1 K w
noncomputable def z50_S:Pw.Spec:=fun vs w Kv=>un [.g 2,tI,tI,.g 2,tI,tI] (fun a_0_0 a_0_1 b_1_0 b_1_1=>z50_sh a_0_0 a_0_1 b_1_0 b_1_1 (kk [.u 2,.g 2,tI,tI,tB] Kv)) nF vs w
def z50_A (_:VW):A:=(qr 4 (qr 7 ql))
theorem z50_ok:Sound Tryz.prog 124 z50_S:=okS (x:=z50_A) (fun Kv a_0_0 a_0_1 b_1_0 b_1_1=>z50_sd a_0_0 a_0_1 b_1_0 b_1_1 (kk [.u 2,.g 2,tI,tI,tB] Kv)) progMixed (Γ:=[(130,z3s_S)]) ⟨.inl z3s_ok,trivial⟩ Tryz.call124 Tryz.func124 (fun _=>hEnd)
structure bits_Add64_sh (a b c:Int)(K:Pw.T5)(w:World):Prop where
 out:(0<=a/\a<18446744073709551616/\0<=b/\b<18446744073709551616/\0<=c/\c<=1)/\K ((a+b+c) % 18446744073709551616) ((a+b+c) / 18446744073709551616) w
noncomputable def bits_Add64_S:Pw.Spec:=fun vs w Kv =>
 match vs with
 | [.int .u64 a,.int .u64 b,.int .u64 c]=>bits_Add64_sh a b c (fun (r s:Int) (w':World)=>Kv (Value.tuple #[Value.int .u64 r,Value.int .u64 s]) w') w
 | _=>False
theorem bits_Add64_ok:SoundX Tryz.prog 208 bits_Add64_S:=fun vs w Kv h=>by
  unfold bits_Add64_S at h
  split at h
  · rename_i a b c
    obtain⟨⟨ha,ha',hb,hb',hc,hc'⟩,hk⟩:=h.out
    exact bits_Add64_run Tryz.func208 (by kernel_rfl) (by kernel_rfl) (by kernel_rfl) (by kernel_rfl) ha ha' hb hb' hc hc' hk
  · exact h.elim
def z3i_sd (a_0_0 a_0_1:Int)(b_1_0 b_1_1:Int)(K:Pw.T5)(w:World):Prop :=
 let w1:=w.alloc (Obj.cells #[(Value.int .u64 a_0_0),(Value.int .u64 a_0_1)] 173)
 let w2:=w1.alloc (Obj.cells #[(Value.int .u64 b_1_0),(Value.int .u64 b_1_1)] 173)
 let w3:=w2.alloc (Obj.cells #[(Value.int .u64 0),(Value.int .u64 0)] 173)
 ∃ x4:Int,w3.cell? (Addr.mk w.heap.size 1 none)=some (Value.int .u64 x4)/\∃ x5:Int,w3.cell? (Addr.mk w1.heap.size 1 none)=some (Value.int .u64 x5)/\bits_Add64_sh x4 x5 (0:Int) (fun r7 r8 w6=>∃ x9:Int,w6.cell? (Addr.mk w.heap.size 0 none)=some (Value.int .u64 x9)/\∃ x10:Int,w6.cell? (Addr.mk w1.heap.size 0 none)=some (Value.int .u64 x10)/\bits_Add64_sh x9 x10 r8 (fun r12 r13 w11=>wrOk w11 (Addr.mk w2.heap.size 0 none)/\
 (let w14:=w11.setCell (Addr.mk w2.heap.size 0 none) (Value.int .u64 r12)
 wrOk w14 (Addr.mk w2.heap.size 1 none)/\
 (let w15:=w14.setCell (Addr.mk w2.heap.size 1 none) (Value.int .u64 r7)
 ∃ x16:Int,w15.cell? (Addr.mk w2.heap.size 0 none)=some (Value.int .u64 x16)/\∃ x17:Int,w15.cell? (Addr.mk w2.heap.size 1 none)=some (Value.int .u64 x17)/\K x16 x17 w15))) w6) w3
structure z3i_sh (a_0_0 a_0_1:Int)(b_1_0 b_1_1:Int)(K:Pw.T5)(w:World):Prop where
 out:z3i_sd a_0_0 a_0_1 b_1_0 b_1_1 K w
noncomputable def z3i_S:Pw.Spec:=fun vs w Kv=>un [.g 2,tU,tU,.g 2,tU,tU] (fun a_0_0 a_0_1 b_1_0 b_1_1=>z3i_sh a_0_0 a_0_1 b_1_0 b_1_1 (kk [.g 2,tU,tU] Kv)) nF vs w
def z3i_A (_:VW):A:=(qr 3 (qr 10 (qr 11 (qr 4 ql))))
theorem z3i_ok:Sound Tryz.prog 176 z3i_S:=okS (x:=z3i_A) (fun Kv a_0_0 a_0_1 b_1_0 b_1_1=>z3i_sd a_0_0 a_0_1 b_1_0 b_1_1 (kk [.g 2,tU,tU] Kv)) progMixed (Γ:=[(208,bits_Add64_S)]) ⟨.inr bits_Add64_ok,trivial⟩ Tryz.call176 Tryz.func176 (fun _=>hEnd)
def z2r_sd (x_0:Int)(K:Pw.T0)(w:World):Prop :=
 K (x_0 != x_0) w
structure z2r_sh (x_0:Int)(K:Pw.T0)(w:World):Prop where
 out:z2r_sd x_0 K w
noncomputable def z2r_S:Pw.Spec:=fun vs w Kv=>un [tU] (fun x_0=>z2r_sh x_0 (kk [tB] Kv)) nF vs w
def z2r_A (_:VW):A:=(qr 1 (qr 4 ql))
theorem z2r_ok:Sound Tryz.prog 207 z2r_S:=okS (x:=z2r_A) (fun Kv x_0=>z2r_sd x_0 (kk [tB] Kv)) progMixed (Γ:=[]) trivial Tryz.call207 Tryz.func207 (fun _=>hEnd)
def z1s_sd (x_0 y_1:Int)(K:Pw.T1)(w:World):Prop :=
 z2r_sh x_0 (fun r2 w1=>z2r_sh y_1 (fun r4 w3=>cnd r2
 (cnd r4
 (K (0:Int) w3)
 (K (-1:Int) w3))
 (cnd r4
 (K (1:Int) w3)
 (cnd (decide (x_0<y_1))
 (K (-1:Int) w3)
 (cnd (decide (x_0>y_1))
 (K (1:Int) w3)
 (K (0:Int) w3))))) w1) w
structure z1s_sh (x_0 y_1:Int)(K:Pw.T1)(w:World):Prop where
 out:z1s_sd x_0 y_1 K w
noncomputable def z1s_S:Pw.Spec:=fun vs w Kv=>un [tU,tU] (fun x_0 y_1=>z1s_sh x_0 y_1 (kk [tI] Kv)) nF vs w
def z1s_A (_:VW):A:=(qr 1 (qr 3 (qr 3 (qs (qr 1 (qc (qs (qr 1 (qc (qr 1 ql) ql)) (qr 1 ql)) ql)) (qs (qr 1 (qc (qr 1 ql) ql)) (qs (qr 3 (qc (qr 1 ql) ql)) (qs (qr 3 (qc (qr 1 ql) ql)) (qr 1 ql))))))))
theorem z1s_ok:Sound Tryz.prog 174 z1s_S:=okS (x:=z1s_A) (fun Kv x_0 y_1=>z1s_sd x_0 y_1 (kk [tI] Kv)) progMixed (Γ:=[(207,z2r_S)]) ⟨.inl z2r_ok,trivial⟩ Tryz.call174 Tryz.func174 (fun _=>hEnd)
def z57_b0 (zero_3:Int)(t_6:Sl)(t_7 t_8:Int)(N0:Int->Sl->Int->Int->World->Prop)(K:Pw.T1)(w:World):Prop :=
 cnd (decide (t_8<t_7))
 (nz t_6.p fun a1=>(0<=t_8/\t_8<(t_6.l:Nat))/\∃ x2:Int,w.cell? (a1.add (t_8.toNat*1))=some (Value.int .i64 x2)/\cnd (x2 != zero_3)
 (K x2 w)
 (inR .i64 (t_8+(1:Int))/\N0 zero_3 t_6 t_7 (t_8+(1:Int)) w))
 (K zero_3 w)
def z57_l0d (zero_3:Int)(t_6:Sl)(t_7 t_8:Int)(K:Pw.T1)(w:World):Prop :=
 ∃ (I:Int->World->Prop) (μ:Int->World->Nat),I t_8 w/\∀ (t_81:Int) (w1:World),I t_81 w1 ->
 z57_b0 zero_3 t_6 t_7 t_81 (fun zero_3' t_6' t_7' t_8' w'=>((zero_3'=zero_3/\t_6'=t_6/\t_7'=t_7/\True)/\I t_8' w')/\μ t_8' w'<μ t_81 w1) K w1
structure z57_l0 (zero_3:Int)(t_6:Sl)(t_7 t_8:Int)(K:Pw.T1)(w:World):Prop where
 out:z57_l0d zero_3 t_6 t_7 t_8 K w
def z57_sd (vals_0:Sl)(K:Pw.T1)(w:World):Prop :=
 z57_l0 (0:Int) vals_0 (vals_0.l:Int) (0:Int) K w
structure z57_sh (vals_0:Sl)(K:Pw.T1)(w:World):Prop where
 out:z57_sd vals_0 K w
def z57_L0 (Kv:VW):Cur [tI,tL,tI,tI] WP:=fun zero_3 t_6 t_7 t_8=>z57_l0 zero_3 t_6 t_7 t_8 (kk [tI] Kv)
noncomputable def z57_S:Pw.Spec:=fun vs w Kv=>un [tL] (fun vals_0=>z57_sh vals_0 (kk [tI] Kv)) nF vs w
def z57_A (Kv:VW):A:=(qr 1 (qr 1 (qs (qr 3 (qb (A.loop [3,6,7,8] (uR0 [tI,tL,tI,tI] (z57_L0 Kv)) (qr 1 (qs (qc ql ql) (qs (qb (qr 3 (qr 3 (qc (qr 2 ql) ql)))) (qe 2))))))) (qr 2 ql))))
theorem z57_ok:Sound Tryz.prog 161 z57_S:=okS (x:=z57_A) (fun Kv vals_0=>z57_sd vals_0 (kk [tI] Kv)) progMixed (Γ:=[]) trivial Tryz.call161 Tryz.func161 (fun Kv=>hStep (hLoop0 (L:=z57_L0 Kv) (fun N0 zero_3 t_6 t_7 t_8=>z57_b0 zero_3 t_6 t_7 t_8 N0 (kk [tI] Kv)) (fun⟨a0,a1,a2,_,_⟩ _ h=>let ⟨I,μ,h0,hr⟩:=h.out; ⟨fun b0 b1 b2 b3 w=>(b0=a0/\b1=a1/\b2=a2/\True)/\I b3 w,fun _ _ _ b3 w=>μ b3 w,⟨⟨rfl,rfl,rfl,trivial⟩,h0⟩,fun⟨_,_,_,_,_⟩ _ ⟨⟨e0,e1,e2,_⟩,hI⟩=>by cases e0; cases e1; cases e2; exact hr _ _ hI⟩)) <| hEnd)
def z3t_sd (a_0_0 a_0_1:Int)(b_1_0 b_1_1:Int)(K:Pw.T1)(w:World):Prop :=
 let w1:=w.alloc (Obj.cells #[(Value.int .u64 a_0_0),(Value.int .u64 a_0_1)] 173)
 let w2:=w1.alloc (Obj.cells #[(Value.int .u64 b_1_0),(Value.int .u64 b_1_1)] 173)
 let w3:=w2.drew
 ∃ S4:World->Prop,S4 w3/\∃ x5:Int,(∀ w':World,S4 w'->w'.cell? (Addr.mk w.heap.size 0 none)=some (Value.int .u64 x5))/\∃ x6:Int,(∀ w':World,S4 w'->w'.cell? (Addr.mk w1.heap.size 0 none)=some (Value.int .u64 x6))/\∃ x7:Int,(∀ w':World,S4 w'->w'.cell? (Addr.mk w.heap.size 1 none)=some (Value.int .u64 x7))/\∃ x8:Int,(∀ w':World,S4 w'->w'.cell? (Addr.mk w1.heap.size 1 none)=some (Value.int .u64 x8))/\z1s_sh x5 x6 (fun r10 w9=>S4 w9/\z1s_sh x7 x8 (fun r12 w11=>S4 w11/\let w13:=w11.alloc (Obj.cells #[(Value.int .i64 r10),(Value.int .i64 r12)] 3)
 S4 w13/\z57_sh (Sl.mk (some (Addr.mk w11.heap.size 0 none)) 2 2) (fun r15 w14=>S4 w14/\K r15 w14) w13) w9) w3
structure z3t_sh (a_0_0 a_0_1:Int)(b_1_0 b_1_1:Int)(K:Pw.T1)(w:World):Prop where
 out:z3t_sd a_0_0 a_0_1 b_1_0 b_1_1 K w
noncomputable def z3t_S:Pw.Spec:=fun vs w Kv=>un [.g 2,tU,tU,.g 2,tU,tU] (fun a_0_0 a_0_1 b_1_0 b_1_1=>z3t_sh a_0_0 a_0_1 b_1_0 b_1_1 (kk [tI] Kv)) nF vs w
def z3t_A (_:VW):A:=(qr 3 (qs (A.drw (dp [0,1,2,3,5,6,7,8] (DA.eff 4 (DA.eff 9 (DA.eff 10 (DA.eff 11 (DA.pur 12 DA.done))))))) ql))
theorem z3t_ok:Sound Tryz.prog 128 z3t_S:=okS (x:=z3t_A) (fun Kv a_0_0 a_0_1 b_1_0 b_1_1=>z3t_sd a_0_0 a_0_1 b_1_0 b_1_1 (kk [tI] Kv)) progMixed (Γ:=[(161,z57_S),(174,z1s_S)]) ⟨.inl z57_ok,.inl z1s_ok,trivial⟩ Tryz.call128 Tryz.func128 (fun _=>hEnd)
structure bits_Sub64_sh (a b c:Int)(K:Pw.T5)(w:World):Prop where
 out:(0<=a/\a<18446744073709551616/\0<=b/\b<18446744073709551616/\0<=c/\c<=1)/\K ((a-b-c) % 18446744073709551616) (if a<b+c then 1 else 0) w
noncomputable def bits_Sub64_S:Pw.Spec:=fun vs w Kv =>
 match vs with
 | [.int .u64 a,.int .u64 b,.int .u64 c]=>bits_Sub64_sh a b c (fun (r s:Int) (w':World)=>Kv (Value.tuple #[Value.int .u64 r,Value.int .u64 s]) w') w
 | _=>False
theorem bits_Sub64_ok:SoundX Tryz.prog 209 bits_Sub64_S:=fun vs w Kv h=>by
  unfold bits_Sub64_S at h
  split at h
  · rename_i a b c
    obtain⟨⟨ha,ha',hb,hb',hc,hc'⟩,hk⟩:=h.out
    exact bits_Sub64_run Tryz.func209 (by kernel_rfl) (by kernel_rfl) (by kernel_rfl) (by kernel_rfl) ha ha' hb hb' hc hc' hk
  · exact h.elim
def z3j_sd (a_0_0 a_0_1:Int)(b_1_0 b_1_1:Int)(K:Pw.T5)(w:World):Prop :=
 let w1:=w.alloc (Obj.cells #[(Value.int .u64 a_0_0),(Value.int .u64 a_0_1)] 173)
 let w2:=w1.alloc (Obj.cells #[(Value.int .u64 b_1_0),(Value.int .u64 b_1_1)] 173)
 let w3:=w2.alloc (Obj.cells #[(Value.int .u64 0),(Value.int .u64 0)] 173)
 ∃ x4:Int,w3.cell? (Addr.mk w.heap.size 1 none)=some (Value.int .u64 x4)/\∃ x5:Int,w3.cell? (Addr.mk w1.heap.size 1 none)=some (Value.int .u64 x5)/\bits_Sub64_sh x4 x5 (0:Int) (fun r7 r8 w6=>∃ x9:Int,w6.cell? (Addr.mk w.heap.size 0 none)=some (Value.int .u64 x9)/\∃ x10:Int,w6.cell? (Addr.mk w1.heap.size 0 none)=some (Value.int .u64 x10)/\bits_Sub64_sh x9 x10 r8 (fun r12 r13 w11=>wrOk w11 (Addr.mk w2.heap.size 0 none)/\
 (let w14:=w11.setCell (Addr.mk w2.heap.size 0 none) (Value.int .u64 r12)
 wrOk w14 (Addr.mk w2.heap.size 1 none)/\
 (let w15:=w14.setCell (Addr.mk w2.heap.size 1 none) (Value.int .u64 r7)
 ∃ x16:Int,w15.cell? (Addr.mk w2.heap.size 0 none)=some (Value.int .u64 x16)/\∃ x17:Int,w15.cell? (Addr.mk w2.heap.size 1 none)=some (Value.int .u64 x17)/\K x16 x17 w15))) w6) w3
structure z3j_sh (a_0_0 a_0_1:Int)(b_1_0 b_1_1:Int)(K:Pw.T5)(w:World):Prop where
 out:z3j_sd a_0_0 a_0_1 b_1_0 b_1_1 K w
noncomputable def z3j_S:Pw.Spec:=fun vs w Kv=>un [.g 2,tU,tU,.g 2,tU,tU] (fun a_0_0 a_0_1 b_1_0 b_1_1=>z3j_sh a_0_0 a_0_1 b_1_0 b_1_1 (kk [.g 2,tU,tU] Kv)) nF vs w
def z3j_A (_:VW):A:=(qr 3 (qr 10 (qr 11 (qr 4 ql))))
theorem z3j_ok:Sound Tryz.prog 177 z3j_S:=okS (x:=z3j_A) (fun Kv a_0_0 a_0_1 b_1_0 b_1_1=>z3j_sd a_0_0 a_0_1 b_1_0 b_1_1 (kk [.g 2,tU,tU] Kv)) progMixed (Γ:=[(209,bits_Sub64_S)]) ⟨.inr bits_Sub64_ok,trivial⟩ Tryz.call177 Tryz.func177 (fun _=>hEnd)
def z4n_k2d (x_0 n_2:Int)(K:Pw.T1)(w:World):Prop :=
 inR .u8 x_0/\(0<=x_0/\x_0<((str [0,1,2,2,3,3,3,3,4,4,4,4,4,4,4,4,5,5,5,5,5,5,5,5,5,5,5,5,5,5,5,5,6,6,6,6,6,6,6,6,6,6,6,6,6,6,6,6,6,6,6,6,6,6,6,6,6,6,6,6,6,6,6,6,7,7,7,7,7,7,7,7,7,7,7,7,7,7,7,7,7,7,7,7,7,7,7,7,7,7,7,7,7,7,7,7,7,7,7,7,7,7,7,7,7,7,7,7,7,7,7,7,7,7,7,7,7,7,7,7,7,7,7,7,7,7,7,7,8,8,8,8,8,8,8,8,8,8,8,8,8,8,8,8,8,8,8,8,8,8,8,8,8,8,8,8,8,8,8,8,8,8,8,8,8,8,8,8,8,8,8,8,8,8,8,8,8,8,8,8,8,8,8,8,8,8,8,8,8,8,8,8,8,8,8,8,8,8,8,8,8,8,8,8,8,8,8,8,8,8,8,8,8,8,8,8,8,8,8,8,8,8,8,8,8,8,8,8,8,8,8,8,8,8,8,8,8,8,8,8,8,8,8,8,8,8,8,8,8,8,8,8,8,8,8,8]).size:Nat))/\inR .i64 (((str [0,1,2,2,3,3,3,3,4,4,4,4,4,4,4,4,5,5,5,5,5,5,5,5,5,5,5,5,5,5,5,5,6,6,6,6,6,6,6,6,6,6,6,6,6,6,6,6,6,6,6,6,6,6,6,6,6,6,6,6,6,6,6,6,7,7,7,7,7,7,7,7,7,7,7,7,7,7,7,7,7,7,7,7,7,7,7,7,7,7,7,7,7,7,7,7,7,7,7,7,7,7,7,7,7,7,7,7,7,7,7,7,7,7,7,7,7,7,7,7,7,7,7,7,7,7,7,7,8,8,8,8,8,8,8,8,8,8,8,8,8,8,8,8,8,8,8,8,8,8,8,8,8,8,8,8,8,8,8,8,8,8,8,8,8,8,8,8,8,8,8,8,8,8,8,8,8,8,8,8,8,8,8,8,8,8,8,8,8,8,8,8,8,8,8,8,8,8,8,8,8,8,8,8,8,8,8,8,8,8,8,8,8,8,8,8,8,8,8,8,8,8,8,8,8,8,8,8,8,8,8,8,8,8,8,8,8,8,8,8,8,8,8,8,8,8,8,8,8,8,8,8,8,8,8,8]).data.toList.getD x_0.toNat 0).toNat:Int)/\inR .i64 (n_2+(((str [0,1,2,2,3,3,3,3,4,4,4,4,4,4,4,4,5,5,5,5,5,5,5,5,5,5,5,5,5,5,5,5,6,6,6,6,6,6,6,6,6,6,6,6,6,6,6,6,6,6,6,6,6,6,6,6,6,6,6,6,6,6,6,6,7,7,7,7,7,7,7,7,7,7,7,7,7,7,7,7,7,7,7,7,7,7,7,7,7,7,7,7,7,7,7,7,7,7,7,7,7,7,7,7,7,7,7,7,7,7,7,7,7,7,7,7,7,7,7,7,7,7,7,7,7,7,7,7,8,8,8,8,8,8,8,8,8,8,8,8,8,8,8,8,8,8,8,8,8,8,8,8,8,8,8,8,8,8,8,8,8,8,8,8,8,8,8,8,8,8,8,8,8,8,8,8,8,8,8,8,8,8,8,8,8,8,8,8,8,8,8,8,8,8,8,8,8,8,8,8,8,8,8,8,8,8,8,8,8,8,8,8,8,8,8,8,8,8,8,8,8,8,8,8,8,8,8,8,8,8,8,8,8,8,8,8,8,8,8,8,8,8,8,8,8,8,8,8,8,8,8,8,8,8,8,8]).data.toList.getD x_0.toNat 0).toNat:Int))/\K (n_2+(((str [0,1,2,2,3,3,3,3,4,4,4,4,4,4,4,4,5,5,5,5,5,5,5,5,5,5,5,5,5,5,5,5,6,6,6,6,6,6,6,6,6,6,6,6,6,6,6,6,6,6,6,6,6,6,6,6,6,6,6,6,6,6,6,6,7,7,7,7,7,7,7,7,7,7,7,7,7,7,7,7,7,7,7,7,7,7,7,7,7,7,7,7,7,7,7,7,7,7,7,7,7,7,7,7,7,7,7,7,7,7,7,7,7,7,7,7,7,7,7,7,7,7,7,7,7,7,7,7,8,8,8,8,8,8,8,8,8,8,8,8,8,8,8,8,8,8,8,8,8,8,8,8,8,8,8,8,8,8,8,8,8,8,8,8,8,8,8,8,8,8,8,8,8,8,8,8,8,8,8,8,8,8,8,8,8,8,8,8,8,8,8,8,8,8,8,8,8,8,8,8,8,8,8,8,8,8,8,8,8,8,8,8,8,8,8,8,8,8,8,8,8,8,8,8,8,8,8,8,8,8,8,8,8,8,8,8,8,8,8,8,8,8,8,8,8,8,8,8,8,8,8,8,8,8,8,8]).data.toList.getD x_0.toNat 0).toNat:Int)) w
structure z4n_k2 (x_0 n_2:Int)(K:Pw.T1)(w:World):Prop where
 out:z4n_k2d x_0 n_2 K w
def z4n_k1d (x_0 n_2:Int)(K:Pw.T1)(w:World):Prop :=
 cnd (decide (x_0>=(256:Int)))
 (0<=(8:Int)/\inR .i64 (n_2+(8:Int))/\z4n_k2 (Int.fdiv x_0 (2^(min 8 (IntKind.bits .u64)))) (n_2+(8:Int)) K w)
 (z4n_k2 x_0 n_2 K w)
structure z4n_k1 (x_0 n_2:Int)(K:Pw.T1)(w:World):Prop where
 out:z4n_k1d x_0 n_2 K w
def z4n_k0d (x_0 n_2:Int)(K:Pw.T1)(w:World):Prop :=
 cnd (decide (x_0>=(65536:Int)))
 (0<=(16:Int)/\inR .i64 (n_2+(16:Int))/\z4n_k1 (Int.fdiv x_0 (2^(min 16 (IntKind.bits .u64)))) (n_2+(16:Int)) K w)
 (z4n_k1 x_0 n_2 K w)
structure z4n_k0 (x_0 n_2:Int)(K:Pw.T1)(w:World):Prop where
 out:z4n_k0d x_0 n_2 K w
def z4n_sd (x_0:Int)(K:Pw.T1)(w:World):Prop :=
 cnd (decide (x_0>=(4294967296:Int)))
 (0<=(32:Int)/\z4n_k0 (Int.fdiv x_0 (2^(min 32 (IntKind.bits .u64)))) (32:Int) K w)
 (z4n_k0 x_0 (0:Int) K w)
structure z4n_sh (x_0:Int)(K:Pw.T1)(w:World):Prop where
 out:z4n_sd x_0 K w
def z4n_L0 (Kv:VW):Cur [tU,tI] WP:=fun x_0 n_2=>z4n_k0 x_0 n_2 (kk [tI] Kv)
def z4n_L1 (Kv:VW):Cur [tU,tI] WP:=fun x_0 n_2=>z4n_k1 x_0 n_2 (kk [tI] Kv)
def z4n_L2 (Kv:VW):Cur [tU,tI] WP:=fun x_0 n_2=>z4n_k2 x_0 n_2 (kk [tI] Kv)
noncomputable def z4n_S:Pw.Spec:=fun vs w Kv=>un [tU] (fun x_0=>z4n_sh x_0 (kk [tI] Kv)) nF vs w
def z4n_A (Kv:VW):A:=(qr 1 (qs (qr 2 (qc (qr 3 (qe 1)) ql)) (A.cut [0,2] (uR0 [tU,tI] (z4n_L0 Kv)) (qs (qr 2 (qc (qr 3 (qe 3)) ql)) (A.cut [0,2] (uR0 [tU,tI] (z4n_L1 Kv)) (qs (qr 2 (qc (qr 3 (qe 3)) ql)) (A.cut [0,2] (uR0 [tU,tI] (z4n_L2 Kv)) (qr 7 ql))))))))
theorem z4n_ok:Sound Tryz.prog 216 z4n_S:=okS (x:=z4n_A) (fun Kv x_0=>z4n_sd x_0 (kk [tI] Kv)) progMixed (Γ:=[]) trivial Tryz.call216 Tryz.func216 (fun Kv=>hStep (hCut0 (F:=z4n_L0 Kv) (G:=fun x_0 n_2=>z4n_k0d x_0 n_2 (kk [tI] Kv))) <| hStep (hCut0 (F:=z4n_L1 Kv) (G:=fun x_0 n_2=>z4n_k1d x_0 n_2 (kk [tI] Kv))) <| hStep (hCut0 (F:=z4n_L2 Kv) (G:=fun x_0 n_2=>z4n_k2d x_0 n_2 (kk [tI] Kv))) <| hEnd)
def z1d_sd (x_0:Int)(K:Pw.T1)(w:World):Prop :=
 z4n_sh x_0 (fun r2 w1=>inR .i64 ((64:Int)-r2)/\K ((64:Int)-r2) w1) w
structure z1d_sh (x_0:Int)(K:Pw.T1)(w:World):Prop where
 out:z1d_sd x_0 K w
noncomputable def z1d_S:Pw.Spec:=fun vs w Kv=>un [tU] (fun x_0=>z1d_sh x_0 (kk [tI] Kv)) nF vs w
def z1d_A (_:VW):A:=(qr 1 (qr 4 ql))
theorem z1d_ok:Sound Tryz.prog 228 z1d_S:=okS (x:=z1d_A) (fun Kv x_0=>z1d_sd x_0 (kk [tI] Kv)) progMixed (Γ:=[(216,z4n_S)]) ⟨.inl z4n_ok,trivial⟩ Tryz.call228 Tryz.func228 (fun _=>hEnd)
def z4m_k5d (y_2 s_8:Int)(un0_14 q1_15:Int)(un21_17 q0_18:Int)(K:Pw.T5)(w:World):Prop :=
 0<=s_8/\K (IntKind.wrap .u64 ((IntKind.wrap .u64 (q1_15*(4294967296:Int)))+q0_18)) (Int.fdiv (IntKind.wrap .u64 ((IntKind.wrap .u64 ((IntKind.wrap .u64 (un21_17*(4294967296:Int)))+un0_14))-(IntKind.wrap .u64 (q0_18*y_2)))) (2^(min s_8.toNat (IntKind.bits .u64)))) w
structure z4m_k5 (y_2 s_8:Int)(un0_14 q1_15:Int)(un21_17 q0_18:Int)(K:Pw.T5)(w:World):Prop where
 out:z4m_k5d y_2 s_8 un0_14 q1_15 un21_17 q0_18 K w
def z4m_k4d (y_2 s_8:Int)(yn1_9 yn0_10:Int)(un0_14 q1_15:Int)(rhat_16 un21_17 q0_18:Int)(N3:Int->Int->Int->Int->Int->Int->Int->Int->Int->World->Prop)(K:Pw.T5)(w:World):Prop :=
 cnd (decide ((IntKind.wrap .u64 (rhat_16+yn1_9))>=(4294967296:Int)))
 (z4m_k5 y_2 s_8 un0_14 q1_15 un21_17 (IntKind.wrap .u64 (q0_18-(1:Int))) K w)
 (N3 y_2 s_8 yn1_9 yn0_10 un0_14 q1_15 (IntKind.wrap .u64 (rhat_16+yn1_9)) un21_17 (IntKind.wrap .u64 (q0_18-(1:Int))) w)
structure z4m_k4 (y_2 s_8:Int)(yn1_9 yn0_10:Int)(un0_14 q1_15:Int)(rhat_16 un21_17 q0_18:Int)(N3:Int->Int->Int->Int->Int->Int->Int->Int->Int->World->Prop)(K:Pw.T5)(w:World):Prop where
 out:z4m_k4d y_2 s_8 yn1_9 yn0_10 un0_14 q1_15 rhat_16 un21_17 q0_18 N3 K w
def z4m_b3 (y_2 s_8:Int)(yn1_9 yn0_10:Int)(un0_14 q1_15:Int)(rhat_16 un21_17 q0_18:Int)(N3:Int->Int->Int->Int->Int->Int->Int->Int->Int->World->Prop)(K:Pw.T5)(w:World):Prop :=
 cnd (decide (q0_18>=(4294967296:Int)))
 (z4m_k4 y_2 s_8 yn1_9 yn0_10 un0_14 q1_15 rhat_16 un21_17 q0_18 N3 K w)
 (cnd (decide ((IntKind.wrap .u64 (q0_18*yn0_10))>(IntKind.wrap .u64 ((IntKind.wrap .u64 ((4294967296:Int)*rhat_16))+un0_14))))
 (z4m_k4 y_2 s_8 yn1_9 yn0_10 un0_14 q1_15 rhat_16 un21_17 q0_18 N3 K w)
 (z4m_k5 y_2 s_8 un0_14 q1_15 un21_17 q0_18 K w))
def z4m_l3d (y_2 s_8:Int)(yn1_9 yn0_10:Int)(un0_14 q1_15:Int)(rhat_16 un21_17 q0_18:Int)(K:Pw.T5)(w:World):Prop :=
 ∃ (I:Int->Int->World->Prop) (μ:Int->Int->World->Nat),I rhat_16 q0_18 w/\∀ (rhat_161 q0_181:Int) (w1:World),I rhat_161 q0_181 w1 ->
 z4m_b3 y_2 s_8 yn1_9 yn0_10 un0_14 q1_15 rhat_161 un21_17 q0_181 (fun y_2' s_8' yn1_9' yn0_10' un0_14' q1_15' rhat_16' un21_17' q0_18' w'=>((y_2'=y_2/\s_8'=s_8/\yn1_9'=yn1_9/\yn0_10'=yn0_10/\un0_14'=un0_14/\q1_15'=q1_15/\un21_17'=un21_17/\True)/\I rhat_16' q0_18' w')/\μ rhat_16' q0_18' w'<μ rhat_161 q0_181 w1) K w1
structure z4m_l3 (y_2 s_8:Int)(yn1_9 yn0_10:Int)(un0_14 q1_15:Int)(rhat_16 un21_17 q0_18:Int)(K:Pw.T5)(w:World):Prop where
 out:z4m_l3d y_2 s_8 yn1_9 yn0_10 un0_14 q1_15 rhat_16 un21_17 q0_18 K w
def z4m_k2d (y_2 s_8:Int)(yn1_9 yn0_10:Int)(un32_11 un1_13:Int)(un0_14 q1_15:Int)(K:Pw.T5)(w:World):Prop :=
 yn1_9≠0/\inR .u64 (Int.tdiv (IntKind.wrap .u64 ((IntKind.wrap .u64 ((IntKind.wrap .u64 (un32_11*(4294967296:Int)))+un1_13))-(IntKind.wrap .u64 (q1_15*y_2)))) yn1_9)/\z4m_l3 y_2 s_8 yn1_9 yn0_10 un0_14 q1_15 (IntKind.wrap .u64 ((IntKind.wrap .u64 ((IntKind.wrap .u64 ((IntKind.wrap .u64 (un32_11*(4294967296:Int)))+un1_13))-(IntKind.wrap .u64 (q1_15*y_2))))-(IntKind.wrap .u64 ((Int.tdiv (IntKind.wrap .u64 ((IntKind.wrap .u64 ((IntKind.wrap .u64 (un32_11*(4294967296:Int)))+un1_13))-(IntKind.wrap .u64 (q1_15*y_2)))) yn1_9)*yn1_9)))) (IntKind.wrap .u64 ((IntKind.wrap .u64 ((IntKind.wrap .u64 (un32_11*(4294967296:Int)))+un1_13))-(IntKind.wrap .u64 (q1_15*y_2)))) (Int.tdiv (IntKind.wrap .u64 ((IntKind.wrap .u64 ((IntKind.wrap .u64 (un32_11*(4294967296:Int)))+un1_13))-(IntKind.wrap .u64 (q1_15*y_2)))) yn1_9) K w
structure z4m_k2 (y_2 s_8:Int)(yn1_9 yn0_10:Int)(un32_11 un1_13:Int)(un0_14 q1_15:Int)(K:Pw.T5)(w:World):Prop where
 out:z4m_k2d y_2 s_8 yn1_9 yn0_10 un32_11 un1_13 un0_14 q1_15 K w
def z4m_k1d (y_2 s_8:Int)(yn1_9 yn0_10:Int)(un32_11 un1_13:Int)(un0_14 q1_15 rhat_16:Int)(N0:Int->Int->Int->Int->Int->Int->Int->Int->Int->World->Prop)(K:Pw.T5)(w:World):Prop :=
 cnd (decide ((IntKind.wrap .u64 (rhat_16+yn1_9))>=(4294967296:Int)))
 (z4m_k2 y_2 s_8 yn1_9 yn0_10 un32_11 un1_13 un0_14 (IntKind.wrap .u64 (q1_15-(1:Int))) K w)
 (N0 y_2 s_8 yn1_9 yn0_10 un32_11 un1_13 un0_14 (IntKind.wrap .u64 (q1_15-(1:Int))) (IntKind.wrap .u64 (rhat_16+yn1_9)) w)
structure z4m_k1 (y_2 s_8:Int)(yn1_9 yn0_10:Int)(un32_11 un1_13:Int)(un0_14 q1_15 rhat_16:Int)(N0:Int->Int->Int->Int->Int->Int->Int->Int->Int->World->Prop)(K:Pw.T5)(w:World):Prop where
 out:z4m_k1d y_2 s_8 yn1_9 yn0_10 un32_11 un1_13 un0_14 q1_15 rhat_16 N0 K w
def z4m_b0 (y_2 s_8:Int)(yn1_9 yn0_10:Int)(un32_11 un1_13:Int)(un0_14 q1_15 rhat_16:Int)(N0:Int->Int->Int->Int->Int->Int->Int->Int->Int->World->Prop)(K:Pw.T5)(w:World):Prop :=
 cnd (decide (q1_15>=(4294967296:Int)))
 (z4m_k1 y_2 s_8 yn1_9 yn0_10 un32_11 un1_13 un0_14 q1_15 rhat_16 N0 K w)
 (cnd (decide ((IntKind.wrap .u64 (q1_15*yn0_10))>(IntKind.wrap .u64 ((IntKind.wrap .u64 ((4294967296:Int)*rhat_16))+un1_13))))
 (z4m_k1 y_2 s_8 yn1_9 yn0_10 un32_11 un1_13 un0_14 q1_15 rhat_16 N0 K w)
 (z4m_k2 y_2 s_8 yn1_9 yn0_10 un32_11 un1_13 un0_14 q1_15 K w))
def z4m_l0d (y_2 s_8:Int)(yn1_9 yn0_10:Int)(un32_11 un1_13:Int)(un0_14 q1_15 rhat_16:Int)(K:Pw.T5)(w:World):Prop :=
 ∃ (I:Int->Int->World->Prop) (μ:Int->Int->World->Nat),I q1_15 rhat_16 w/\∀ (q1_151 rhat_161:Int) (w1:World),I q1_151 rhat_161 w1 ->
 z4m_b0 y_2 s_8 yn1_9 yn0_10 un32_11 un1_13 un0_14 q1_151 rhat_161 (fun y_2' s_8' yn1_9' yn0_10' un32_11' un1_13' un0_14' q1_15' rhat_16' w'=>((y_2'=y_2/\s_8'=s_8/\yn1_9'=yn1_9/\yn0_10'=yn0_10/\un32_11'=un32_11/\un1_13'=un1_13/\un0_14'=un0_14/\True)/\I q1_15' rhat_16' w')/\μ q1_15' rhat_16' w'<μ q1_151 rhat_161 w1) K w1
structure z4m_l0 (y_2 s_8:Int)(yn1_9 yn0_10:Int)(un32_11 un1_13:Int)(un0_14 q1_15 rhat_16:Int)(K:Pw.T5)(w:World):Prop where
 out:z4m_l0d y_2 s_8 yn1_9 yn0_10 un32_11 un1_13 un0_14 q1_15 rhat_16 K w
def z4m_sd (hi_0 lo_1 y_2:Int)(K:Pw.T5)(w:World):Prop :=
 cnd (y_2 == (0:Int))
 (∃ x1:Value,w.cell? (Addr.mk 4 0 none)=some x1/\False)
 (cnd (decide (y_2<=hi_0))
 (∃ x2:Value,w.cell? (Addr.mk 5 0 none)=some x2/\False)
 (cnd (hi_0 == (0:Int))
 (let w3:=w.drew
 y_2≠0/\inR .u64 (Int.tdiv lo_1 y_2)/\y_2≠0/\K (Int.tdiv lo_1 y_2) (Int.tmod lo_1 y_2) w3)
 (z1d_sh y_2 (fun r5 w4=>0<=(IntKind.wrap .u64 r5)/\0<=(32:Int)/\0<=(IntKind.wrap .u64 r5)/\0<=(IntKind.wrap .u64 ((64:Int)-(IntKind.wrap .u64 r5)))/\0<=(IntKind.wrap .u64 r5)/\0<=(32:Int)/\(Int.fdiv (IntKind.wrap .u64 (y_2*2^(min (IntKind.wrap .u64 r5).toNat (IntKind.bits .u64)))) (2^(min 32 (IntKind.bits .u64))))≠0/\inR .u64 (Int.tdiv (IntKind.wrap .u64 (((BitVec.ofInt (IntKind.bits .u64) (IntKind.wrap .u64 (hi_0*2^(min (IntKind.wrap .u64 r5).toNat (IntKind.bits .u64)))) ||| BitVec.ofInt (IntKind.bits .u64) (Int.fdiv lo_1 (2^(min (IntKind.wrap .u64 ((64:Int)-(IntKind.wrap .u64 r5))).toNat (IntKind.bits .u64)))))).toNat:Int)) (Int.fdiv (IntKind.wrap .u64 (y_2*2^(min (IntKind.wrap .u64 r5).toNat (IntKind.bits .u64)))) (2^(min 32 (IntKind.bits .u64)))))/\z4m_l0 (IntKind.wrap .u64 (y_2*2^(min (IntKind.wrap .u64 r5).toNat (IntKind.bits .u64)))) (IntKind.wrap .u64 r5) (Int.fdiv (IntKind.wrap .u64 (y_2*2^(min (IntKind.wrap .u64 r5).toNat (IntKind.bits .u64)))) (2^(min 32 (IntKind.bits .u64)))) (IntKind.wrap .u64 (((BitVec.ofInt (IntKind.bits .u64) (IntKind.wrap .u64 (y_2*2^(min (IntKind.wrap .u64 r5).toNat (IntKind.bits .u64)))) &&& BitVec.ofInt (IntKind.bits .u64) (4294967295:Int))).toNat:Int)) (IntKind.wrap .u64 (((BitVec.ofInt (IntKind.bits .u64) (IntKind.wrap .u64 (hi_0*2^(min (IntKind.wrap .u64 r5).toNat (IntKind.bits .u64)))) ||| BitVec.ofInt (IntKind.bits .u64) (Int.fdiv lo_1 (2^(min (IntKind.wrap .u64 ((64:Int)-(IntKind.wrap .u64 r5))).toNat (IntKind.bits .u64)))))).toNat:Int)) (Int.fdiv (IntKind.wrap .u64 (lo_1*2^(min (IntKind.wrap .u64 r5).toNat (IntKind.bits .u64)))) (2^(min 32 (IntKind.bits .u64)))) (IntKind.wrap .u64 (((BitVec.ofInt (IntKind.bits .u64) (IntKind.wrap .u64 (lo_1*2^(min (IntKind.wrap .u64 r5).toNat (IntKind.bits .u64)))) &&& BitVec.ofInt (IntKind.bits .u64) (4294967295:Int))).toNat:Int)) (Int.tdiv (IntKind.wrap .u64 (((BitVec.ofInt (IntKind.bits .u64) (IntKind.wrap .u64 (hi_0*2^(min (IntKind.wrap .u64 r5).toNat (IntKind.bits .u64)))) ||| BitVec.ofInt (IntKind.bits .u64) (Int.fdiv lo_1 (2^(min (IntKind.wrap .u64 ((64:Int)-(IntKind.wrap .u64 r5))).toNat (IntKind.bits .u64)))))).toNat:Int)) (Int.fdiv (IntKind.wrap .u64 (y_2*2^(min (IntKind.wrap .u64 r5).toNat (IntKind.bits .u64)))) (2^(min 32 (IntKind.bits .u64))))) (IntKind.wrap .u64 ((IntKind.wrap .u64 (((BitVec.ofInt (IntKind.bits .u64) (IntKind.wrap .u64 (hi_0*2^(min (IntKind.wrap .u64 r5).toNat (IntKind.bits .u64)))) ||| BitVec.ofInt (IntKind.bits .u64) (Int.fdiv lo_1 (2^(min (IntKind.wrap .u64 ((64:Int)-(IntKind.wrap .u64 r5))).toNat (IntKind.bits .u64)))))).toNat:Int))-(IntKind.wrap .u64 ((Int.tdiv (IntKind.wrap .u64 (((BitVec.ofInt (IntKind.bits .u64) (IntKind.wrap .u64 (hi_0*2^(min (IntKind.wrap .u64 r5).toNat (IntKind.bits .u64)))) ||| BitVec.ofInt (IntKind.bits .u64) (Int.fdiv lo_1 (2^(min (IntKind.wrap .u64 ((64:Int)-(IntKind.wrap .u64 r5))).toNat (IntKind.bits .u64)))))).toNat:Int)) (Int.fdiv (IntKind.wrap .u64 (y_2*2^(min (IntKind.wrap .u64 r5).toNat (IntKind.bits .u64)))) (2^(min 32 (IntKind.bits .u64)))))*(Int.fdiv (IntKind.wrap .u64 (y_2*2^(min (IntKind.wrap .u64 r5).toNat (IntKind.bits .u64)))) (2^(min 32 (IntKind.bits .u64)))))))) K w4) w)))
structure z4m_sh (hi_0 lo_1 y_2:Int)(K:Pw.T5)(w:World):Prop where
 out:z4m_sd hi_0 lo_1 y_2 K w
def z4m_L0 (Kv:VW):Cur [tU,tU,tU,tU,tU,tU,tU,tU,tU] WP:=fun y_2 s_8 yn1_9 yn0_10 un32_11 un1_13 un0_14 q1_15 rhat_16=>z4m_l0 y_2 s_8 yn1_9 yn0_10 un32_11 un1_13 un0_14 q1_15 rhat_16 (kk [.u 2,tU,tU] Kv)
def z4m_L1 (Kv:VW):Cur [tU,tU,tU,tU,tU,tU,tU,tU,tU] WP->Cur [tU,tU,tU,tU,tU,tU,tU,tU,tU] WP:=fun N0 y_2 s_8 yn1_9 yn0_10 un32_11 un1_13 un0_14 q1_15 rhat_16=>z4m_k1 y_2 s_8 yn1_9 yn0_10 un32_11 un1_13 un0_14 q1_15 rhat_16 N0 (kk [.u 2,tU,tU] Kv)
def z4m_L2 (Kv:VW):Cur [tU,tU,tU,tU,tU,tU,tU,tU] WP:=fun y_2 s_8 yn1_9 yn0_10 un32_11 un1_13 un0_14 q1_15=>z4m_k2 y_2 s_8 yn1_9 yn0_10 un32_11 un1_13 un0_14 q1_15 (kk [.u 2,tU,tU] Kv)
def z4m_L3 (Kv:VW):Cur [tU,tU,tU,tU,tU,tU,tU,tU,tU] WP:=fun y_2 s_8 yn1_9 yn0_10 un0_14 q1_15 rhat_16 un21_17 q0_18=>z4m_l3 y_2 s_8 yn1_9 yn0_10 un0_14 q1_15 rhat_16 un21_17 q0_18 (kk [.u 2,tU,tU] Kv)
def z4m_L4 (Kv:VW):Cur [tU,tU,tU,tU,tU,tU,tU,tU,tU] WP->Cur [tU,tU,tU,tU,tU,tU,tU,tU,tU] WP:=fun N3 y_2 s_8 yn1_9 yn0_10 un0_14 q1_15 rhat_16 un21_17 q0_18=>z4m_k4 y_2 s_8 yn1_9 yn0_10 un0_14 q1_15 rhat_16 un21_17 q0_18 N3 (kk [.u 2,tU,tU] Kv)
def z4m_L5 (Kv:VW):Cur [tU,tU,tU,tU,tU,tU] WP:=fun y_2 s_8 un0_14 q1_15 un21_17 q0_18=>z4m_k5 y_2 s_8 un0_14 q1_15 un21_17 q0_18 (kk [.u 2,tU,tU] Kv)
noncomputable def z4m_S:Pw.Spec:=fun vs w Kv=>un [tU,tU,tU] (fun hi_0 lo_1 y_2=>z4m_sh hi_0 lo_1 y_2 (kk [.u 2,tU,tU] Kv)) nF vs w
def z4m_A (Kv:VW):A:=(qr 2 (qs (qr 2 (qc (qe 2) ql)) (qs (qr 3 (qc (qe 2) ql)) (qs (qr 2 (qc (qs (A.drp (dp [0,1,2,3,4,5,6,7] DA.done)) ql) ql)) (qs (A.reg (qn 2 (RA.raw (qn 1 RA.done)))) (qr 4 (qr 3 (qr 3 (qs (A.reg (qn 5 (RA.raw (qn 3 RA.done)))) (qr 4 (qr 3 (qr 3 (qr 4 (qs (A.reg (qn 3 (RA.raw (RA.raw (qn 1 RA.done))))) (qs (qb (A.loop [2,8,9,10,11,13,14,15,16] (uR0 [tU,tU,tU,tU,tU,tU,tU,tU,tU] (z4m_L0 Kv)) (qs (qs (A.reg (qn 3 (RA.spl 69 (qk 8 (qn 1 RA.done)) (qn 2 (RA.raw (qn 1 (RA.raw (qn 1 (RA.raw (qn 2 RA.done)))))))))) (qc ql ql)) (A.cut [2,8,9,10,11,13,14,15,16] (uR1 [tU,tU,tU,tU,tU,tU,tU,tU,tU] [tU,tU,tU,tU,tU,tU,tU,tU,tU] (z4m_L1 Kv)) (qb (qs (A.reg (qn 1 (RA.raw (qn 1 RA.done)))) (qs (A.reg (qn 2 (RA.raw (qn 1 RA.done)))) (qr 2 (qc ql ql))))))))) (A.cut [2,8,9,10,11,13,14,15] (uR0 [tU,tU,tU,tU,tU,tU,tU,tU] (z4m_L2 Kv)) (qs (A.reg (qn 1 (RA.raw (qn 1 (RA.raw (qn 2 (RA.raw (RA.raw (qn 1 RA.done))))))))) (qr 4 (qs (A.reg (qn 3 (RA.raw (RA.raw (qn 1 RA.done))))) (qs (qb (A.loop [2,8,9,10,14,15,16,17,18] (uR0 [tU,tU,tU,tU,tU,tU,tU,tU,tU] (z4m_L3 Kv)) (qs (qs (A.reg (qn 3 (RA.spl 104 (qk 8 (qn 1 RA.done)) (qn 2 (RA.raw (qn 1 (RA.raw (qn 1 (RA.raw (qn 2 RA.done)))))))))) (qc ql ql)) (A.cut [2,8,9,10,14,15,16,17,18] (uR1 [tU,tU,tU,tU,tU,tU,tU,tU,tU] [tU,tU,tU,tU,tU,tU,tU,tU,tU] (z4m_L4 Kv)) (qb (qs (A.reg (qn 1 (RA.raw (qn 1 RA.done)))) (qs (A.reg (qn 2 (RA.raw (qn 1 RA.done)))) (qr 2 (qc ql ql))))))))) (A.cut [2,8,14,15,17,18] (uR0 [tU,tU,tU,tU,tU,tU] (z4m_L5 Kv)) (qs (A.reg (qn 1 (RA.raw (qn 1 (RA.raw (qn 1 (RA.raw (qn 1 (RA.raw (qn 2 (RA.raw (RA.raw (qn 4 RA.done))))))))))))) ql))))))))))))))))))))))
theorem z4m_ok:Sound Tryz.prog 210 z4m_S:=okS (x:=z4m_A) (fun Kv hi_0 lo_1 y_2=>z4m_sd hi_0 lo_1 y_2 (kk [.u 2,tU,tU] Kv)) progMixed (Γ:=[(228,z1d_S)]) ⟨.inl z1d_ok,trivial⟩ Tryz.call210 Tryz.func210 (fun Kv=>hStep (hLoop0 (L:=z4m_L0 Kv) (fun N0 y_2 s_8 yn1_9 yn0_10 un32_11 un1_13 un0_14 q1_15 rhat_16=>z4m_b0 y_2 s_8 yn1_9 yn0_10 un32_11 un1_13 un0_14 q1_15 rhat_16 N0 (kk [.u 2,tU,tU] Kv)) (fun⟨a0,a1,a2,a3,a4,a5,a6,_,_,_⟩ _ h=>let ⟨I,μ,h0,hr⟩:=h.out; ⟨fun b0 b1 b2 b3 b4 b5 b6 b7 b8 w=>(b0=a0/\b1=a1/\b2=a2/\b3=a3/\b4=a4/\b5=a5/\b6=a6/\True)/\I b7 b8 w,fun _ _ _ _ _ _ _ b7 b8 w=>μ b7 b8 w,⟨⟨rfl,rfl,rfl,rfl,rfl,rfl,rfl,trivial⟩,h0⟩,fun⟨_,_,_,_,_,_,_,_,_,_⟩ _ ⟨⟨e0,e1,e2,e3,e4,e5,e6,_⟩,hI⟩=>by cases e0; cases e1; cases e2; cases e3; cases e4; cases e5; cases e6; exact hr _ _ _ hI⟩)) <| hStep (hCut1 (F:=z4m_L1 Kv) (G:=fun N0 y_2 s_8 yn1_9 yn0_10 un32_11 un1_13 un0_14 q1_15 rhat_16=>z4m_k1d y_2 s_8 yn1_9 yn0_10 un32_11 un1_13 un0_14 q1_15 rhat_16 N0 (kk [.u 2,tU,tU] Kv))) <| hStep (hCut0 (F:=z4m_L2 Kv) (G:=fun y_2 s_8 yn1_9 yn0_10 un32_11 un1_13 un0_14 q1_15=>z4m_k2d y_2 s_8 yn1_9 yn0_10 un32_11 un1_13 un0_14 q1_15 (kk [.u 2,tU,tU] Kv))) <| hStep (hLoop0 (L:=z4m_L3 Kv) (fun N3 y_2 s_8 yn1_9 yn0_10 un0_14 q1_15 rhat_16 un21_17 q0_18=>z4m_b3 y_2 s_8 yn1_9 yn0_10 un0_14 q1_15 rhat_16 un21_17 q0_18 N3 (kk [.u 2,tU,tU] Kv)) (fun⟨a0,a1,a2,a3,a4,a5,_,a7,_,_⟩ _ h=>let ⟨I,μ,h0,hr⟩:=h.out; ⟨fun b0 b1 b2 b3 b4 b5 b6 b7 b8 w=>(b0=a0/\b1=a1/\b2=a2/\b3=a3/\b4=a4/\b5=a5/\b7=a7/\True)/\I b6 b8 w,fun _ _ _ _ _ _ b6 _ b8 w=>μ b6 b8 w,⟨⟨rfl,rfl,rfl,rfl,rfl,rfl,rfl,trivial⟩,h0⟩,fun⟨_,_,_,_,_,_,_,_,_,_⟩ _ ⟨⟨e0,e1,e2,e3,e4,e5,e7,_⟩,hI⟩=>by cases e0; cases e1; cases e2; cases e3; cases e4; cases e5; cases e7; exact hr _ _ _ hI⟩)) <| hStep (hCut1 (F:=z4m_L4 Kv) (G:=fun N3 y_2 s_8 yn1_9 yn0_10 un0_14 q1_15 rhat_16 un21_17 q0_18=>z4m_k4d y_2 s_8 yn1_9 yn0_10 un0_14 q1_15 rhat_16 un21_17 q0_18 N3 (kk [.u 2,tU,tU] Kv))) <| hStep (hCut0 (F:=z4m_L5 Kv) (G:=fun y_2 s_8 un0_14 q1_15 un21_17 q0_18=>z4m_k5d y_2 s_8 un0_14 q1_15 un21_17 q0_18 (kk [.u 2,tU,tU] Kv))) <| hEnd)
def z3d_sd (a_0_0 a_0_1 b_1:Int)(K:Int->Int->Int->World->Prop)(w:World):Prop :=
 let w1:=w.alloc (Obj.cells #[(Value.int .u64 a_0_0),(Value.int .u64 a_0_1)] 173)
 let w2:=w1.alloc (Obj.cells #[(Value.int .u64 0),(Value.int .u64 0)] 173)
 let w3:=w2.drew
 ∃ x4:Int,w3.cell? (Addr.mk w.heap.size 0 none)=some (Value.int .u64 x4)/\b_1≠0/\inR .u64 (Int.tdiv x4 b_1)/\∃ x5:Int,w3.cell? (Addr.mk w.heap.size 0 none)=some (Value.int .u64 x5)/\b_1≠0/\∃ x6:Int,w3.cell? (Addr.mk w.heap.size 1 none)=some (Value.int .u64 x6)/\z4m_sh (Int.tmod x5 b_1) x6 b_1 (fun r8 r9 w7=>wrOk w7 (Addr.mk w1.heap.size 0 none)/\
 (let w10:=w7.setCell (Addr.mk w1.heap.size 0 none) (Value.int .u64 (Int.tdiv x4 b_1))
 wrOk w10 (Addr.mk w1.heap.size 1 none)/\
 (let w11:=w10.setCell (Addr.mk w1.heap.size 1 none) (Value.int .u64 r8)
 ∃ x12:Int,w11.cell? (Addr.mk w1.heap.size 0 none)=some (Value.int .u64 x12)/\∃ x13:Int,w11.cell? (Addr.mk w1.heap.size 1 none)=some (Value.int .u64 x13)/\K x12 x13 r9 w11))) w3
structure z3d_sh (a_0_0 a_0_1 b_1:Int)(K:Int->Int->Int->World->Prop)(w:World):Prop where
 out:z3d_sd a_0_0 a_0_1 b_1 K w
noncomputable def z3d_S:Pw.Spec:=fun vs w Kv=>un [.g 2,tU,tU,tU] (fun a_0_0 a_0_1 b_1=>z3d_sh a_0_0 a_0_1 b_1 (kk [.u 2,.g 2,tU,tU,tU] Kv)) nF vs w
def z3d_A (_:VW):A:=(qr 3 (qs (A.drp (dp [0,1,2,3,4,5,6,7,8,9] DA.done)) (qr 10 (qr 6 ql))))
theorem z3d_ok:Sound Tryz.prog 178 z3d_S:=okS (x:=z3d_A) (fun Kv a_0_0 a_0_1 b_1=>z3d_sd a_0_0 a_0_1 b_1 (kk [.u 2,.g 2,tU,tU,tU] Kv)) progMixed (Γ:=[(210,z4m_S)]) ⟨.inl z4m_ok,trivial⟩ Tryz.call178 Tryz.func178 (fun _=>hEnd)
def z53_k1d (x_2 y_3 t_4:Addr)(g_6:Int)(n_9:Addr)(sign_10:Bool)(K:Pw.T4)(w:World):Prop :=
 ∃ x149:Int,w.cell? n_9=some (Value.int .u64 x149)/\∃ x150:Int,w.cell? (n_9.add 1)=some (Value.int .u64 x150)/\cnd (x149 == (0:Int) && (x150 == (0:Int) && true))
 (z4w_sh (fun r152_0 r152_1 w151=>wrOk w151 t_4/\
 (let w153:=w151.setCell t_4 (Value.int .i64 r152_0)
 wrOk w153 (t_4.add 1)/\
 (let w154:=w153.setCell (t_4.add 1) (Value.int .i64 r152_1)
 ∃ x155:Int,w154.cell? t_4=some (Value.int .i64 x155)/\∃ x156:Int,w154.cell? (t_4.add 1)=some (Value.int .i64 x156)/\K x155 x156 true w154))) w)
 (∃ x157:Int,w.cell? n_9=some (Value.int .u64 x157)/\∃ x158:Int,w.cell? (n_9.add 1)=some (Value.int .u64 x158)/\z3d_sh x157 x158 g_6 (fun r160_0 r160_1 r161 w159=>let w162:=w159.alloc (Obj.cells #[(Value.int .u64 0),(Value.int .u64 0)] 173)
 wrOk w162 (Addr.mk w159.heap.size 0 none)/\
 (let w163:=w162.setCell (Addr.mk w159.heap.size 0 none) (Value.int .u64 r160_0)
 wrOk w163 (Addr.mk w159.heap.size 1 none)/\
 (let w164:=w163.setCell (Addr.mk w159.heap.size 1 none) (Value.int .u64 r160_1)
 z51_sh g_6 r161 (fun r166 w165=>∃ x167:Int,w165.cell? n_9=some (Value.int .u64 x167)/\∃ x168:Int,w165.cell? (n_9.add 1)=some (Value.int .u64 x168)/\z3d_sh x167 x168 r166 (fun r170_0 r170_1 r171 w169=>wrOk w169 n_9/\
 (let w172:=w169.setCell n_9 (Value.int .u64 r170_0)
 wrOk w172 (n_9.add 1)/\
 (let w173:=w172.setCell (n_9.add 1) (Value.int .u64 r170_1)
 let w174:=w173.drew
 ∃ S175:World->Prop,S175 w174/\∃ x176:Int,(∀ w':World,S175 w'->w'.cell? n_9=some (Value.int .u64 x176))/\∃ x177:Int,(∀ w':World,S175 w'->w'.cell? (n_9.add 1)=some (Value.int .u64 x177))/\∃ x178:Int,(∀ w':World,S175 w'->w'.cell? (x_2.add 2)=some (Value.int .u64 x178))/\g_6≠0/\inR .u64 (Int.tdiv x178 g_6)/\∃ x179:Int,(∀ w':World,S175 w'->w'.cell? (y_3.add 2)=some (Value.int .u64 x179))/\r166≠0/\inR .u64 (Int.tdiv x179 r166)/\z3u_sh (Int.tdiv x178 g_6) (Int.tdiv x179 r166) (fun r181_0 r181_1 w180=>S175 w180/\z52_sh sign_10 x176 x177 r181_0 r181_1 (fun r183_0 r183_1 r184 w182=>S175 w182/\wrOk w182 t_4/\
 (let w185:=w182.setCell t_4 (Value.int .i64 r183_0)
 wrOk w185 (t_4.add 1)/\
 (let w186:=w185.setCell (t_4.add 1) (Value.int .i64 r183_1)
 ∃ x187:Int,w186.cell? t_4=some (Value.int .i64 x187)/\∃ x188:Int,w186.cell? (t_4.add 1)=some (Value.int .i64 x188)/\K x187 x188 r184 w186))) w180) w174))) w165) w164))) w)
structure z53_k1 (x_2 y_3 t_4:Addr)(g_6:Int)(n_9:Addr)(sign_10:Bool)(K:Pw.T4)(w:World):Prop where
 out:z53_k1d x_2 y_3 t_4 g_6 n_9 sign_10 K w
def z53_k0d (x_2 y_3 t_4:Addr)(g_6:Int)(a_7 b_8:Addr)(K:Pw.T4)(w:World):Prop :=
 let w112:=w.alloc (Obj.cells #[(Value.int .u64 0),(Value.int .u64 0)] 173)
 ∃ x113:Bool,w112.cell? x_2=some (Value.bool x113)/\∃ x114:Bool,w112.cell? x_2=some (Value.bool x114)/\∃ x115:Bool,w112.cell? y_3=some (Value.bool x115)/\cnd (x114 == x115)
 (∃ x116:Int,w112.cell? a_7=some (Value.int .u64 x116)/\∃ x117:Int,w112.cell? (a_7.add 1)=some (Value.int .u64 x117)/\∃ x118:Int,w112.cell? b_8=some (Value.int .u64 x118)/\∃ x119:Int,w112.cell? (b_8.add 1)=some (Value.int .u64 x119)/\z3i_sh x116 x117 x118 x119 (fun r121_0 r121_1 w120=>wrOk w120 (Addr.mk w.heap.size 0 none)/\
 (let w122:=w120.setCell (Addr.mk w.heap.size 0 none) (Value.int .u64 r121_0)
 wrOk w122 (Addr.mk w.heap.size 1 none)/\
 (let w123:=w122.setCell (Addr.mk w.heap.size 1 none) (Value.int .u64 r121_1)
 z53_k1 x_2 y_3 t_4 g_6 (Addr.mk w.heap.size 0 none) x113 K w123))) w112)
 (∃ x124:Int,w112.cell? a_7=some (Value.int .u64 x124)/\∃ x125:Int,w112.cell? (a_7.add 1)=some (Value.int .u64 x125)/\∃ x126:Int,w112.cell? b_8=some (Value.int .u64 x126)/\∃ x127:Int,w112.cell? (b_8.add 1)=some (Value.int .u64 x127)/\z3t_sh x124 x125 x126 x127 (fun r129 w128=>cnd (decide (r129>=(0:Int)))
 (∃ x130:Int,w128.cell? a_7=some (Value.int .u64 x130)/\∃ x131:Int,w128.cell? (a_7.add 1)=some (Value.int .u64 x131)/\∃ x132:Int,w128.cell? b_8=some (Value.int .u64 x132)/\∃ x133:Int,w128.cell? (b_8.add 1)=some (Value.int .u64 x133)/\z3j_sh x130 x131 x132 x133 (fun r135_0 r135_1 w134=>wrOk w134 (Addr.mk w.heap.size 0 none)/\
 (let w136:=w134.setCell (Addr.mk w.heap.size 0 none) (Value.int .u64 r135_0)
 wrOk w136 (Addr.mk w.heap.size 1 none)/\
 (let w137:=w136.setCell (Addr.mk w.heap.size 1 none) (Value.int .u64 r135_1)
 z53_k1 x_2 y_3 t_4 g_6 (Addr.mk w.heap.size 0 none) x113 K w137))) w128)
 (let w138:=w128.drew
 ∃ S139:World->Prop,S139 w138/\∃ x140:Int,(∀ w':World,S139 w'->w'.cell? b_8=some (Value.int .u64 x140))/\∃ x141:Int,(∀ w':World,S139 w'->w'.cell? (b_8.add 1)=some (Value.int .u64 x141))/\∃ x142:Int,(∀ w':World,S139 w'->w'.cell? a_7=some (Value.int .u64 x142))/\∃ x143:Int,(∀ w':World,S139 w'->w'.cell? (a_7.add 1)=some (Value.int .u64 x143))/\∃ x144:Bool,(∀ w':World,S139 w'->w'.cell? y_3=some (Value.bool x144))/\z3j_sh x140 x141 x142 x143 (fun r146_0 r146_1 w145=>S139 w145/\wrOk w145 (Addr.mk w.heap.size 0 none)/\
 (let w147:=w145.setCell (Addr.mk w.heap.size 0 none) (Value.int .u64 r146_0)
 wrOk w147 (Addr.mk w.heap.size 1 none)/\
 (let w148:=w147.setCell (Addr.mk w.heap.size 1 none) (Value.int .u64 r146_1)
 S139 w148/\z53_k1 x_2 y_3 t_4 g_6 (Addr.mk w.heap.size 0 none) x144 K w148))) w138)) w112)
structure z53_k0 (x_2 y_3 t_4:Addr)(g_6:Int)(a_7 b_8:Addr)(K:Pw.T4)(w:World):Prop where
 out:z53_k0d x_2 y_3 t_4 g_6 a_7 b_8 K w
def z53_sd (x_0_0:Bool)(x_0_1 x_0_2:Int)(y_1_0:Bool)(y_1_1 y_1_2:Int)(K:Pw.T4)(w:World):Prop :=
 let w1:=w.alloc (Obj.cells #[(Value.bool x_0_0),(Value.int .u64 x_0_1),(Value.int .u64 x_0_2)] 169)
 let w2:=w1.alloc (Obj.cells #[(Value.bool y_1_0),(Value.int .u64 y_1_1),(Value.int .u64 y_1_2)] 169)
 let w3:=w2.alloc (Obj.cells #[(Value.int .i64 0),(Value.int .i64 0)] 31)
 ∃ x4:Int,w3.cell? (Addr.mk w.heap.size 2 none)=some (Value.int .u64 x4)/\∃ x5:Int,w3.cell? (Addr.mk w1.heap.size 2 none)=some (Value.int .u64 x5)/\z51_sh x4 x5 (fun r7 w6=>let w8:=w6.drew
 ∃ S9:World->Prop,S9 w8/\∃ x10:Int,(∀ w':World,S9 w'->w'.cell? (Addr.mk w.heap.size 1 none)=some (Value.int .u64 x10))/\∃ x11:Int,(∀ w':World,S9 w'->w'.cell? (Addr.mk w1.heap.size 2 none)=some (Value.int .u64 x11))/\r7≠0/\inR .u64 (Int.tdiv x11 r7)/\∃ x12:Int,(∀ w':World,S9 w'->w'.cell? (Addr.mk w1.heap.size 1 none)=some (Value.int .u64 x12))/\∃ x13:Int,(∀ w':World,S9 w'->w'.cell? (Addr.mk w.heap.size 2 none)=some (Value.int .u64 x13))/\r7≠0/\inR .u64 (Int.tdiv x13 r7)/\(z3u_sh x10 (Int.tdiv x11 r7) (fun r15_0 r15_1 w14=>S9 w14/\(z3u_sh x12 (Int.tdiv x13 r7) (fun r17_0 r17_1 w16=>S9 w16/\(let w18:=w16.alloc (Obj.cells #[(Value.int .u64 0),(Value.int .u64 0)] 173)
 S9 w18/\let w19:=w18.alloc (Obj.cells #[(Value.int .u64 0),(Value.int .u64 0)] 173)
 S9 w19/\wrOk w19 (Addr.mk w16.heap.size 0 none)/\
 (let w20:=w19.setCell (Addr.mk w16.heap.size 0 none) (Value.int .u64 r15_0)
 wrOk w20 (Addr.mk w16.heap.size 1 none)/\
 (let w21:=w20.setCell (Addr.mk w16.heap.size 1 none) (Value.int .u64 r15_1)
 S9 w21/\wrOk w21 (Addr.mk w18.heap.size 0 none)/\
 (let w22:=w21.setCell (Addr.mk w18.heap.size 0 none) (Value.int .u64 r17_0)
 wrOk w22 (Addr.mk w18.heap.size 1 none)/\
 (let w23:=w22.setCell (Addr.mk w18.heap.size 1 none) (Value.int .u64 r17_1)
 z53_k0 (Addr.mk w.heap.size 0 none) (Addr.mk w1.heap.size 0 none) (Addr.mk w2.heap.size 0 none) r7 (Addr.mk w16.heap.size 0 none) (Addr.mk w18.heap.size 0 none) K w23)))))
/\(let w24:=w16.alloc (Obj.cells #[(Value.int .u64 0),(Value.int .u64 0)] 173)
 S9 w24/\let w25:=w24.alloc (Obj.cells #[(Value.int .u64 0),(Value.int .u64 0)] 173)
 S9 w25/\wrOk w25 (Addr.mk w24.heap.size 0 none)/\
 (let w26:=w25.setCell (Addr.mk w24.heap.size 0 none) (Value.int .u64 r15_0)
 wrOk w26 (Addr.mk w24.heap.size 1 none)/\
 (let w27:=w26.setCell (Addr.mk w24.heap.size 1 none) (Value.int .u64 r15_1)
 S9 w27/\wrOk w27 (Addr.mk w16.heap.size 0 none)/\
 (let w28:=w27.setCell (Addr.mk w16.heap.size 0 none) (Value.int .u64 r17_0)
 wrOk w28 (Addr.mk w16.heap.size 1 none)/\
 (let w29:=w28.setCell (Addr.mk w16.heap.size 1 none) (Value.int .u64 r17_1)
 z53_k0 (Addr.mk w.heap.size 0 none) (Addr.mk w1.heap.size 0 none) (Addr.mk w2.heap.size 0 none) r7 (Addr.mk w24.heap.size 0 none) (Addr.mk w16.heap.size 0 none) K w29)))))) w14)
/\(let w30:=w14.alloc (Obj.cells #[(Value.int .u64 0),(Value.int .u64 0)] 173)
 S9 w30/\(z3u_sh x12 (Int.tdiv x13 r7) (fun r32_0 r32_1 w31=>S9 w31/\let w33:=w31.alloc (Obj.cells #[(Value.int .u64 0),(Value.int .u64 0)] 173)
 S9 w33/\wrOk w33 (Addr.mk w14.heap.size 0 none)/\
 (let w34:=w33.setCell (Addr.mk w14.heap.size 0 none) (Value.int .u64 r15_0)
 wrOk w34 (Addr.mk w14.heap.size 1 none)/\
 (let w35:=w34.setCell (Addr.mk w14.heap.size 1 none) (Value.int .u64 r15_1)
 S9 w35/\wrOk w35 (Addr.mk w31.heap.size 0 none)/\
 (let w36:=w35.setCell (Addr.mk w31.heap.size 0 none) (Value.int .u64 r32_0)
 wrOk w36 (Addr.mk w31.heap.size 1 none)/\
 (let w37:=w36.setCell (Addr.mk w31.heap.size 1 none) (Value.int .u64 r32_1)
 z53_k0 (Addr.mk w.heap.size 0 none) (Addr.mk w1.heap.size 0 none) (Addr.mk w2.heap.size 0 none) r7 (Addr.mk w14.heap.size 0 none) (Addr.mk w31.heap.size 0 none) K w37))))) w30)
/\(let w38:=w30.alloc (Obj.cells #[(Value.int .u64 0),(Value.int .u64 0)] 173)
 S9 w38/\z3u_sh x12 (Int.tdiv x13 r7) (fun r40_0 r40_1 w39=>S9 w39/\wrOk w39 (Addr.mk w14.heap.size 0 none)/\
 (let w41:=w39.setCell (Addr.mk w14.heap.size 0 none) (Value.int .u64 r15_0)
 wrOk w41 (Addr.mk w14.heap.size 1 none)/\
 (let w42:=w41.setCell (Addr.mk w14.heap.size 1 none) (Value.int .u64 r15_1)
 S9 w42/\wrOk w42 (Addr.mk w30.heap.size 0 none)/\
 (let w43:=w42.setCell (Addr.mk w30.heap.size 0 none) (Value.int .u64 r40_0)
 wrOk w43 (Addr.mk w30.heap.size 1 none)/\
 (let w44:=w43.setCell (Addr.mk w30.heap.size 1 none) (Value.int .u64 r40_1)
 z53_k0 (Addr.mk w.heap.size 0 none) (Addr.mk w1.heap.size 0 none) (Addr.mk w2.heap.size 0 none) r7 (Addr.mk w14.heap.size 0 none) (Addr.mk w30.heap.size 0 none) K w44))))) w38))
/\(let w45:=w14.alloc (Obj.cells #[(Value.int .u64 0),(Value.int .u64 0)] 173)
 S9 w45/\(z3u_sh x12 (Int.tdiv x13 r7) (fun r47_0 r47_1 w46=>S9 w46/\let w48:=w46.alloc (Obj.cells #[(Value.int .u64 0),(Value.int .u64 0)] 173)
 S9 w48/\wrOk w48 (Addr.mk w46.heap.size 0 none)/\
 (let w49:=w48.setCell (Addr.mk w46.heap.size 0 none) (Value.int .u64 r15_0)
 wrOk w49 (Addr.mk w46.heap.size 1 none)/\
 (let w50:=w49.setCell (Addr.mk w46.heap.size 1 none) (Value.int .u64 r15_1)
 S9 w50/\wrOk w50 (Addr.mk w14.heap.size 0 none)/\
 (let w51:=w50.setCell (Addr.mk w14.heap.size 0 none) (Value.int .u64 r47_0)
 wrOk w51 (Addr.mk w14.heap.size 1 none)/\
 (let w52:=w51.setCell (Addr.mk w14.heap.size 1 none) (Value.int .u64 r47_1)
 z53_k0 (Addr.mk w.heap.size 0 none) (Addr.mk w1.heap.size 0 none) (Addr.mk w2.heap.size 0 none) r7 (Addr.mk w46.heap.size 0 none) (Addr.mk w14.heap.size 0 none) K w52))))) w45)
/\(let w53:=w45.alloc (Obj.cells #[(Value.int .u64 0),(Value.int .u64 0)] 173)
 S9 w53/\z3u_sh x12 (Int.tdiv x13 r7) (fun r55_0 r55_1 w54=>S9 w54/\wrOk w54 (Addr.mk w45.heap.size 0 none)/\
 (let w56:=w54.setCell (Addr.mk w45.heap.size 0 none) (Value.int .u64 r15_0)
 wrOk w56 (Addr.mk w45.heap.size 1 none)/\
 (let w57:=w56.setCell (Addr.mk w45.heap.size 1 none) (Value.int .u64 r15_1)
 S9 w57/\wrOk w57 (Addr.mk w14.heap.size 0 none)/\
 (let w58:=w57.setCell (Addr.mk w14.heap.size 0 none) (Value.int .u64 r55_0)
 wrOk w58 (Addr.mk w14.heap.size 1 none)/\
 (let w59:=w58.setCell (Addr.mk w14.heap.size 1 none) (Value.int .u64 r55_1)
 z53_k0 (Addr.mk w.heap.size 0 none) (Addr.mk w1.heap.size 0 none) (Addr.mk w2.heap.size 0 none) r7 (Addr.mk w45.heap.size 0 none) (Addr.mk w14.heap.size 0 none) K w59))))) w53))) w8)
/\(let w60:=w8.alloc (Obj.cells #[(Value.int .u64 0),(Value.int .u64 0)] 173)
 S9 w60/\(z3u_sh x10 (Int.tdiv x11 r7) (fun r62_0 r62_1 w61=>S9 w61/\(z3u_sh x12 (Int.tdiv x13 r7) (fun r64_0 r64_1 w63=>S9 w63/\let w65:=w63.alloc (Obj.cells #[(Value.int .u64 0),(Value.int .u64 0)] 173)
 S9 w65/\wrOk w65 (Addr.mk w8.heap.size 0 none)/\
 (let w66:=w65.setCell (Addr.mk w8.heap.size 0 none) (Value.int .u64 r62_0)
 wrOk w66 (Addr.mk w8.heap.size 1 none)/\
 (let w67:=w66.setCell (Addr.mk w8.heap.size 1 none) (Value.int .u64 r62_1)
 S9 w67/\wrOk w67 (Addr.mk w63.heap.size 0 none)/\
 (let w68:=w67.setCell (Addr.mk w63.heap.size 0 none) (Value.int .u64 r64_0)
 wrOk w68 (Addr.mk w63.heap.size 1 none)/\
 (let w69:=w68.setCell (Addr.mk w63.heap.size 1 none) (Value.int .u64 r64_1)
 z53_k0 (Addr.mk w.heap.size 0 none) (Addr.mk w1.heap.size 0 none) (Addr.mk w2.heap.size 0 none) r7 (Addr.mk w8.heap.size 0 none) (Addr.mk w63.heap.size 0 none) K w69))))) w61)
/\(let w70:=w61.alloc (Obj.cells #[(Value.int .u64 0),(Value.int .u64 0)] 173)
 S9 w70/\z3u_sh x12 (Int.tdiv x13 r7) (fun r72_0 r72_1 w71=>S9 w71/\wrOk w71 (Addr.mk w8.heap.size 0 none)/\
 (let w73:=w71.setCell (Addr.mk w8.heap.size 0 none) (Value.int .u64 r62_0)
 wrOk w73 (Addr.mk w8.heap.size 1 none)/\
 (let w74:=w73.setCell (Addr.mk w8.heap.size 1 none) (Value.int .u64 r62_1)
 S9 w74/\wrOk w74 (Addr.mk w61.heap.size 0 none)/\
 (let w75:=w74.setCell (Addr.mk w61.heap.size 0 none) (Value.int .u64 r72_0)
 wrOk w75 (Addr.mk w61.heap.size 1 none)/\
 (let w76:=w75.setCell (Addr.mk w61.heap.size 1 none) (Value.int .u64 r72_1)
 z53_k0 (Addr.mk w.heap.size 0 none) (Addr.mk w1.heap.size 0 none) (Addr.mk w2.heap.size 0 none) r7 (Addr.mk w8.heap.size 0 none) (Addr.mk w61.heap.size 0 none) K w76))))) w70)) w60)
/\(let w77:=w60.alloc (Obj.cells #[(Value.int .u64 0),(Value.int .u64 0)] 173)
 S9 w77/\z3u_sh x10 (Int.tdiv x11 r7) (fun r79_0 r79_1 w78=>S9 w78/\z3u_sh x12 (Int.tdiv x13 r7) (fun r81_0 r81_1 w80=>S9 w80/\wrOk w80 (Addr.mk w8.heap.size 0 none)/\
 (let w82:=w80.setCell (Addr.mk w8.heap.size 0 none) (Value.int .u64 r79_0)
 wrOk w82 (Addr.mk w8.heap.size 1 none)/\
 (let w83:=w82.setCell (Addr.mk w8.heap.size 1 none) (Value.int .u64 r79_1)
 S9 w83/\wrOk w83 (Addr.mk w60.heap.size 0 none)/\
 (let w84:=w83.setCell (Addr.mk w60.heap.size 0 none) (Value.int .u64 r81_0)
 wrOk w84 (Addr.mk w60.heap.size 1 none)/\
 (let w85:=w84.setCell (Addr.mk w60.heap.size 1 none) (Value.int .u64 r81_1)
 z53_k0 (Addr.mk w.heap.size 0 none) (Addr.mk w1.heap.size 0 none) (Addr.mk w2.heap.size 0 none) r7 (Addr.mk w8.heap.size 0 none) (Addr.mk w60.heap.size 0 none) K w85))))) w78) w77))
/\(let w86:=w8.alloc (Obj.cells #[(Value.int .u64 0),(Value.int .u64 0)] 173)
 S9 w86/\(z3u_sh x10 (Int.tdiv x11 r7) (fun r88_0 r88_1 w87=>S9 w87/\(z3u_sh x12 (Int.tdiv x13 r7) (fun r90_0 r90_1 w89=>S9 w89/\let w91:=w89.alloc (Obj.cells #[(Value.int .u64 0),(Value.int .u64 0)] 173)
 S9 w91/\wrOk w91 (Addr.mk w89.heap.size 0 none)/\
 (let w92:=w91.setCell (Addr.mk w89.heap.size 0 none) (Value.int .u64 r88_0)
 wrOk w92 (Addr.mk w89.heap.size 1 none)/\
 (let w93:=w92.setCell (Addr.mk w89.heap.size 1 none) (Value.int .u64 r88_1)
 S9 w93/\wrOk w93 (Addr.mk w8.heap.size 0 none)/\
 (let w94:=w93.setCell (Addr.mk w8.heap.size 0 none) (Value.int .u64 r90_0)
 wrOk w94 (Addr.mk w8.heap.size 1 none)/\
 (let w95:=w94.setCell (Addr.mk w8.heap.size 1 none) (Value.int .u64 r90_1)
 z53_k0 (Addr.mk w.heap.size 0 none) (Addr.mk w1.heap.size 0 none) (Addr.mk w2.heap.size 0 none) r7 (Addr.mk w89.heap.size 0 none) (Addr.mk w8.heap.size 0 none) K w95))))) w87)
/\(let w96:=w87.alloc (Obj.cells #[(Value.int .u64 0),(Value.int .u64 0)] 173)
 S9 w96/\z3u_sh x12 (Int.tdiv x13 r7) (fun r98_0 r98_1 w97=>S9 w97/\wrOk w97 (Addr.mk w87.heap.size 0 none)/\
 (let w99:=w97.setCell (Addr.mk w87.heap.size 0 none) (Value.int .u64 r88_0)
 wrOk w99 (Addr.mk w87.heap.size 1 none)/\
 (let w100:=w99.setCell (Addr.mk w87.heap.size 1 none) (Value.int .u64 r88_1)
 S9 w100/\wrOk w100 (Addr.mk w8.heap.size 0 none)/\
 (let w101:=w100.setCell (Addr.mk w8.heap.size 0 none) (Value.int .u64 r98_0)
 wrOk w101 (Addr.mk w8.heap.size 1 none)/\
 (let w102:=w101.setCell (Addr.mk w8.heap.size 1 none) (Value.int .u64 r98_1)
 z53_k0 (Addr.mk w.heap.size 0 none) (Addr.mk w1.heap.size 0 none) (Addr.mk w2.heap.size 0 none) r7 (Addr.mk w87.heap.size 0 none) (Addr.mk w8.heap.size 0 none) K w102))))) w96)) w86)
/\(let w103:=w86.alloc (Obj.cells #[(Value.int .u64 0),(Value.int .u64 0)] 173)
 S9 w103/\z3u_sh x10 (Int.tdiv x11 r7) (fun r105_0 r105_1 w104=>S9 w104/\z3u_sh x12 (Int.tdiv x13 r7) (fun r107_0 r107_1 w106=>S9 w106/\wrOk w106 (Addr.mk w86.heap.size 0 none)/\
 (let w108:=w106.setCell (Addr.mk w86.heap.size 0 none) (Value.int .u64 r105_0)
 wrOk w108 (Addr.mk w86.heap.size 1 none)/\
 (let w109:=w108.setCell (Addr.mk w86.heap.size 1 none) (Value.int .u64 r105_1)
 S9 w109/\wrOk w109 (Addr.mk w8.heap.size 0 none)/\
 (let w110:=w109.setCell (Addr.mk w8.heap.size 0 none) (Value.int .u64 r107_0)
 wrOk w110 (Addr.mk w8.heap.size 1 none)/\
 (let w111:=w110.setCell (Addr.mk w8.heap.size 1 none) (Value.int .u64 r107_1)
 z53_k0 (Addr.mk w.heap.size 0 none) (Addr.mk w1.heap.size 0 none) (Addr.mk w2.heap.size 0 none) r7 (Addr.mk w86.heap.size 0 none) (Addr.mk w8.heap.size 0 none) K w111))))) w104) w103))) w3
structure z53_sh (x_0_0:Bool)(x_0_1 x_0_2:Int)(y_1_0:Bool)(y_1_1 y_1_2:Int)(K:Pw.T4)(w:World):Prop where
 out:z53_sd x_0_0 x_0_1 x_0_2 y_1_0 y_1_1 y_1_2 K w
def z53_L0 (Kv:VW):Cur [tQ,tQ,tQ,tU,tQ,tQ] WP:=fun x_2 y_3 t_4 g_6 a_7 b_8=>z53_k0 x_2 y_3 t_4 g_6 a_7 b_8 (kk [.u 2,.g 2,tI,tI,tB] Kv)
def z53_L1 (Kv:VW):Cur [tQ,tQ,tQ,tU,tQ,tB] WP:=fun x_2 y_3 t_4 g_6 n_9 sign_10=>z53_k1 x_2 y_3 t_4 g_6 n_9 sign_10 (kk [.u 2,.g 2,tI,tI,tB] Kv)
noncomputable def z53_S:Pw.Spec:=fun vs w Kv=>un [.g 3,tB,tU,tU,.g 3,tB,tU,tU] (fun x_0_0 x_0_1 x_0_2 y_1_0 y_1_1 y_1_2=>z53_sh x_0_0 x_0_1 x_0_2 y_1_0 y_1_1 y_1_2 (kk [.u 2,.g 2,tI,tI,tB] Kv)) nF vs w
def z53_A (Kv:VW):A:=(qr 4 (qr 6 (qs (A.drw (dp [0,1,2,3,4,5,7,8,9,10,11,12] (DA.thr 6 (DA.thr 13 (DA.two 14 (DA.eff 15 (DA.eff 16 (DA.eff 17 DA.done))) 15 (DA.eff 14 (DA.eff 16 (DA.eff 17 DA.done)))) 14 (DA.two 13 (DA.eff 15 (DA.eff 16 (DA.eff 17 DA.done))) 15 (DA.eff 13 (DA.eff 16 (DA.eff 17 DA.done)))) 15 (DA.two 13 (DA.eff 14 (DA.eff 16 (DA.eff 17 DA.done))) 14 (DA.eff 13 (DA.eff 16 (DA.eff 17 DA.done))))) 14 (DA.two 6 (DA.two 13 (DA.eff 15 (DA.eff 16 (DA.eff 17 DA.done))) 15 (DA.eff 13 (DA.eff 16 (DA.eff 17 DA.done)))) 15 (DA.eff 6 (DA.eff 13 (DA.eff 16 (DA.eff 17 DA.done))))) 15 (DA.two 6 (DA.two 13 (DA.eff 14 (DA.eff 16 (DA.eff 17 DA.done))) 14 (DA.eff 13 (DA.eff 16 (DA.eff 17 DA.done)))) 14 (DA.eff 6 (DA.eff 13 (DA.eff 16 (DA.eff 17 DA.done)))))))) (A.cut [2,3,4,6,7,8] (uR0 [tQ,tQ,tQ,tU,tQ,tQ] (z53_L0 Kv)) (qr 1 (qr 3 (qs (qb (qr 6 (qc (qe 4) (qr 5 (qc (qe 4) (A.drw (dp [0,1,3,4] (DA.eff 2 (DA.eff 5 (DA.pur 6 DA.done)))))))))) (A.cut [2,3,4,6,9,10] (uR0 [tQ,tQ,tQ,tU,tQ,tB] (z53_L1 Kv)) (qs (qr 3 (qc (qr 3 ql) ql)) (qr 9 (qr 4 (qr 7 (qs (A.drw (dp [0,1,2,3,4,5,6,7,8,9] (DA.eff 10 (DA.eff 11 (dp [12,13] (DA.eff 14 (DA.pur 15 DA.done))))))) ql)))))))))))))
theorem z53_ok:Sound Tryz.prog 131 z53_S:=okS (x:=z53_A) (fun Kv x_0_0 x_0_1 x_0_2 y_1_0 y_1_1 y_1_2=>z53_sd x_0_0 x_0_1 x_0_2 y_1_0 y_1_1 y_1_2 (kk [.u 2,.g 2,tI,tI,tB] Kv)) progMixed (Γ:=[(73,z51_S),(128,z3t_S),(129,z3u_S),(175,z4w_S),(176,z3i_S),(177,z3j_S),(178,z3d_S),(179,z52_S)]) ⟨.inl z51_ok,.inl z3t_ok,.inl z3u_ok,.inl z4w_ok,.inl z3i_ok,.inl z3j_ok,.inl z3d_ok,.inl z52_ok,trivial⟩ Tryz.call131 Tryz.func131 (fun Kv=>hStep (hCut0 (F:=z53_L0 Kv) (G:=fun x_2 y_3 t_4 g_6 a_7 b_8=>z53_k0d x_2 y_3 t_4 g_6 a_7 b_8 (kk [.u 2,.g 2,tI,tI,tB] Kv))) <| hStep (hCut0 (F:=z53_L1 Kv) (G:=fun x_2 y_3 t_4 g_6 n_9 sign_10=>z53_k1d x_2 y_3 t_4 g_6 n_9 sign_10 (kk [.u 2,.g 2,tI,tI,tB] Kv))) <| hEnd)
def z4y_sd (a_0_0 a_0_1:Int)(b_1_0 b_1_1:Int)(K:Pw.T4)(w:World):Prop :=
 let w1:=w.alloc (Obj.cells #[(Value.int .i64 a_0_0),(Value.int .i64 a_0_1)] 31)
 let w2:=w1.alloc (Obj.cells #[(Value.int .i64 b_1_0),(Value.int .i64 b_1_1)] 31)
 let w3:=w2.alloc (Obj.cells #[(Value.int .i64 0),(Value.int .i64 0)] 31)
 ∃ x4:Int,w3.cell? (Addr.mk w.heap.size 0 none)=some (Value.int .i64 x4)/\∃ x5:Int,w3.cell? (Addr.mk w.heap.size 1 none)=some (Value.int .i64 x5)/\∃ x6:Int,w3.cell? (Addr.mk w1.heap.size 0 none)=some (Value.int .i64 x6)/\∃ x7:Int,w3.cell? (Addr.mk w1.heap.size 1 none)=some (Value.int .i64 x7)/\z3s_sh x4 x5 x6 x7 (Value.func (.func 131) #[] #[]) (fun r9_0 r9_1 r10 w8=>wrOk w8 (Addr.mk w2.heap.size 0 none)/\
 (let w11:=w8.setCell (Addr.mk w2.heap.size 0 none) (Value.int .i64 r9_0)
 wrOk w11 (Addr.mk w2.heap.size 1 none)/\
 (let w12:=w11.setCell (Addr.mk w2.heap.size 1 none) (Value.int .i64 r9_1)
 ∃ x13:Int,w12.cell? (Addr.mk w2.heap.size 0 none)=some (Value.int .i64 x13)/\∃ x14:Int,w12.cell? (Addr.mk w2.heap.size 1 none)=some (Value.int .i64 x14)/\K x13 x14 r10 w12))) w3
structure z4y_sh (a_0_0 a_0_1:Int)(b_1_0 b_1_1:Int)(K:Pw.T4)(w:World):Prop where
 out:z4y_sd a_0_0 a_0_1 b_1_0 b_1_1 K w
noncomputable def z4y_S:Pw.Spec:=fun vs w Kv=>un [.g 2,tI,tI,.g 2,tI,tI] (fun a_0_0 a_0_1 b_1_0 b_1_1=>z4y_sh a_0_0 a_0_1 b_1_0 b_1_1 (kk [.u 2,.g 2,tI,tI,tB] Kv)) nF vs w
def z4y_A (_:VW):A:=(qr 4 (qr 7 ql))
theorem z4y_ok:Sound Tryz.prog 78 z4y_S:=okS (x:=z4y_A) (fun Kv a_0_0 a_0_1 b_1_0 b_1_1=>z4y_sd a_0_0 a_0_1 b_1_0 b_1_1 (kk [.u 2,.g 2,tI,tI,tB] Kv)) progMixed (Γ:=[(130,z3s_S)]) ⟨.inl z3s_ok,trivial⟩ Tryz.call78 Tryz.func78 (fun _=>hEnd)
def z4x_sd (x_0:Int)(K:Pw.T0)(w:World):Prop :=
 K (x_0 != x_0) w
structure z4x_sh (x_0:Int)(K:Pw.T0)(w:World):Prop where
 out:z4x_sd x_0 K w
noncomputable def z4x_S:Pw.Spec:=fun vs w Kv=>un [tI] (fun x_0=>z4x_sh x_0 (kk [tB] Kv)) nF vs w
def z4x_A (_:VW):A:=(qr 1 (qr 4 ql))
theorem z4x_ok:Sound Tryz.prog 173 z4x_S:=okS (x:=z4x_A) (fun Kv x_0=>z4x_sd x_0 (kk [tB] Kv)) progMixed (Γ:=[]) trivial Tryz.call173 Tryz.func173 (fun _=>hEnd)
def z49_sd (x_0 y_1:Int)(K:Pw.T1)(w:World):Prop :=
 z4x_sh x_0 (fun r2 w1=>z4x_sh y_1 (fun r4 w3=>cnd r2
 (cnd r4
 (K (0:Int) w3)
 (K (-1:Int) w3))
 (cnd r4
 (K (1:Int) w3)
 (cnd (decide (x_0<y_1))
 (K (-1:Int) w3)
 (cnd (decide (x_0>y_1))
 (K (1:Int) w3)
 (K (0:Int) w3))))) w1) w
structure z49_sh (x_0 y_1:Int)(K:Pw.T1)(w:World):Prop where
 out:z49_sd x_0 y_1 K w
noncomputable def z49_S:Pw.Spec:=fun vs w Kv=>un [tI,tI] (fun x_0 y_1=>z49_sh x_0 y_1 (kk [tI] Kv)) nF vs w
def z49_A (_:VW):A:=(qr 1 (qr 3 (qr 3 (qs (qr 1 (qc (qs (qr 1 (qc (qr 1 ql) ql)) (qr 1 ql)) ql)) (qs (qr 1 (qc (qr 1 ql) ql)) (qs (qr 3 (qc (qr 1 ql) ql)) (qs (qr 3 (qc (qr 1 ql) ql)) (qr 1 ql))))))))
theorem z49_ok:Sound Tryz.prog 127 z49_S:=okS (x:=z49_A) (fun Kv x_0 y_1=>z49_sd x_0 y_1 (kk [tI] Kv)) progMixed (Γ:=[(173,z4x_S)]) ⟨.inl z4x_ok,trivial⟩ Tryz.call127 Tryz.func127 (fun _=>hEnd)
def z4z_k0d (a_2 b_3:Addr)(x_5 y_6:Addr)(K:Pw.T1)(w:World):Prop :=
 ∃ x137:Bool,w.cell? x_5=some (Value.bool x137)/\∃ x138:Bool,w.cell? y_6=some (Value.bool x138)/\cnd (!(x137 == x138))
 (∃ x139:Int,w.cell? a_2=some (Value.int .i64 x139)/\∃ x140:Int,w.cell? b_3=some (Value.int .i64 x140)/\z49_sh x139 x140 (fun r142 w141=>K r142 w141) w)
 (let w143:=w.drew
 ∃ S144:World->Prop,S144 w143/\∃ x145:Int,(∀ w':World,S144 w'->w'.cell? (x_5.add 1)=some (Value.int .u64 x145))/\∃ x146:Int,(∀ w':World,S144 w'->w'.cell? (y_6.add 2)=some (Value.int .u64 x146))/\∃ x147:Int,(∀ w':World,S144 w'->w'.cell? (y_6.add 1)=some (Value.int .u64 x147))/\∃ x148:Int,(∀ w':World,S144 w'->w'.cell? (x_5.add 2)=some (Value.int .u64 x148))/\z3u_sh x145 x146 (fun r150_0 r150_1 w149=>S144 w149/\z3u_sh x147 x148 (fun r152_0 r152_1 w151=>S144 w151/\z3t_sh r150_0 r150_1 r152_0 r152_1 (fun r154 w153=>S144 w153/\∃ x155:Bool,w153.cell? x_5=some (Value.bool x155)/\cnd x155
 (inR .i64 (-r154)/\K (-r154) w153)
 (K r154 w153)) w151) w149) w143)
structure z4z_k0 (a_2 b_3:Addr)(x_5 y_6:Addr)(K:Pw.T1)(w:World):Prop where
 out:z4z_k0d a_2 b_3 x_5 y_6 K w
def z4z_sd (a_0_0 a_0_1:Int)(b_1_0 b_1_1:Int)(K:Pw.T1)(w:World):Prop :=
 let w1:=w.alloc (Obj.cells #[(Value.int .i64 a_0_0),(Value.int .i64 a_0_1)] 31)
 let w2:=w1.alloc (Obj.cells #[(Value.int .i64 b_1_0),(Value.int .i64 b_1_1)] 31)
 ∃ x3:Int,w2.cell? (Addr.mk w.heap.size 0 none)=some (Value.int .i64 x3)/\∃ x4:Int,w2.cell? (Addr.mk w.heap.size 1 none)=some (Value.int .i64 x4)/\∃ x5:Int,w2.cell? (Addr.mk w1.heap.size 0 none)=some (Value.int .i64 x5)/\∃ x6:Int,w2.cell? (Addr.mk w1.heap.size 1 none)=some (Value.int .i64 x6)/\z4u_sh x3 x4 x5 x6 (fun r8 w7=>cnd (!r8)
 (K (0:Int) w7)
 (let w9:=w7.drew
 ∃ S10:World->Prop,S10 w9/\∃ x11:Int,(∀ w':World,S10 w'->w'.cell? (Addr.mk w.heap.size 0 none)=some (Value.int .i64 x11))/\∃ x12:Int,(∀ w':World,S10 w'->w'.cell? (Addr.mk w.heap.size 1 none)=some (Value.int .i64 x12))/\∃ x13:Int,(∀ w':World,S10 w'->w'.cell? (Addr.mk w1.heap.size 0 none)=some (Value.int .i64 x13))/\∃ x14:Int,(∀ w':World,S10 w'->w'.cell? (Addr.mk w1.heap.size 1 none)=some (Value.int .i64 x14))/\(z56_sh x11 x12 (fun r16_0 r16_1 r16_2 w15=>S10 w15/\(z56_sh x13 x14 (fun r18_0 r18_1 r18_2 w17=>S10 w17/\(let w19:=w17.alloc (Obj.cells #[(Value.bool false),(Value.int .u64 0),(Value.int .u64 0)] 169)
 S10 w19/\let w20:=w19.alloc (Obj.cells #[(Value.bool false),(Value.int .u64 0),(Value.int .u64 0)] 169)
 S10 w20/\wrOk w20 (Addr.mk w17.heap.size 0 none)/\
 (let w21:=w20.setCell (Addr.mk w17.heap.size 0 none) (Value.bool r16_0)
 wrOk w21 (Addr.mk w17.heap.size 1 none)/\
 (let w22:=w21.setCell (Addr.mk w17.heap.size 1 none) (Value.int .u64 r16_1)
 wrOk w22 (Addr.mk w17.heap.size 2 none)/\
 (let w23:=w22.setCell (Addr.mk w17.heap.size 2 none) (Value.int .u64 r16_2)
 S10 w23/\wrOk w23 (Addr.mk w19.heap.size 0 none)/\
 (let w24:=w23.setCell (Addr.mk w19.heap.size 0 none) (Value.bool r18_0)
 wrOk w24 (Addr.mk w19.heap.size 1 none)/\
 (let w25:=w24.setCell (Addr.mk w19.heap.size 1 none) (Value.int .u64 r18_1)
 wrOk w25 (Addr.mk w19.heap.size 2 none)/\
 (let w26:=w25.setCell (Addr.mk w19.heap.size 2 none) (Value.int .u64 r18_2)
 z4z_k0 (Addr.mk w.heap.size 0 none) (Addr.mk w1.heap.size 0 none) (Addr.mk w17.heap.size 0 none) (Addr.mk w19.heap.size 0 none) K w26)))))))
/\(let w27:=w17.alloc (Obj.cells #[(Value.bool false),(Value.int .u64 0),(Value.int .u64 0)] 169)
 S10 w27/\let w28:=w27.alloc (Obj.cells #[(Value.bool false),(Value.int .u64 0),(Value.int .u64 0)] 169)
 S10 w28/\wrOk w28 (Addr.mk w27.heap.size 0 none)/\
 (let w29:=w28.setCell (Addr.mk w27.heap.size 0 none) (Value.bool r16_0)
 wrOk w29 (Addr.mk w27.heap.size 1 none)/\
 (let w30:=w29.setCell (Addr.mk w27.heap.size 1 none) (Value.int .u64 r16_1)
 wrOk w30 (Addr.mk w27.heap.size 2 none)/\
 (let w31:=w30.setCell (Addr.mk w27.heap.size 2 none) (Value.int .u64 r16_2)
 S10 w31/\wrOk w31 (Addr.mk w17.heap.size 0 none)/\
 (let w32:=w31.setCell (Addr.mk w17.heap.size 0 none) (Value.bool r18_0)
 wrOk w32 (Addr.mk w17.heap.size 1 none)/\
 (let w33:=w32.setCell (Addr.mk w17.heap.size 1 none) (Value.int .u64 r18_1)
 wrOk w33 (Addr.mk w17.heap.size 2 none)/\
 (let w34:=w33.setCell (Addr.mk w17.heap.size 2 none) (Value.int .u64 r18_2)
 z4z_k0 (Addr.mk w.heap.size 0 none) (Addr.mk w1.heap.size 0 none) (Addr.mk w27.heap.size 0 none) (Addr.mk w17.heap.size 0 none) K w34)))))))) w15)
/\(let w35:=w15.alloc (Obj.cells #[(Value.bool false),(Value.int .u64 0),(Value.int .u64 0)] 169)
 S10 w35/\(z56_sh x13 x14 (fun r37_0 r37_1 r37_2 w36=>S10 w36/\let w38:=w36.alloc (Obj.cells #[(Value.bool false),(Value.int .u64 0),(Value.int .u64 0)] 169)
 S10 w38/\wrOk w38 (Addr.mk w15.heap.size 0 none)/\
 (let w39:=w38.setCell (Addr.mk w15.heap.size 0 none) (Value.bool r16_0)
 wrOk w39 (Addr.mk w15.heap.size 1 none)/\
 (let w40:=w39.setCell (Addr.mk w15.heap.size 1 none) (Value.int .u64 r16_1)
 wrOk w40 (Addr.mk w15.heap.size 2 none)/\
 (let w41:=w40.setCell (Addr.mk w15.heap.size 2 none) (Value.int .u64 r16_2)
 S10 w41/\wrOk w41 (Addr.mk w36.heap.size 0 none)/\
 (let w42:=w41.setCell (Addr.mk w36.heap.size 0 none) (Value.bool r37_0)
 wrOk w42 (Addr.mk w36.heap.size 1 none)/\
 (let w43:=w42.setCell (Addr.mk w36.heap.size 1 none) (Value.int .u64 r37_1)
 wrOk w43 (Addr.mk w36.heap.size 2 none)/\
 (let w44:=w43.setCell (Addr.mk w36.heap.size 2 none) (Value.int .u64 r37_2)
 z4z_k0 (Addr.mk w.heap.size 0 none) (Addr.mk w1.heap.size 0 none) (Addr.mk w15.heap.size 0 none) (Addr.mk w36.heap.size 0 none) K w44))))))) w35)
/\(let w45:=w35.alloc (Obj.cells #[(Value.bool false),(Value.int .u64 0),(Value.int .u64 0)] 169)
 S10 w45/\z56_sh x13 x14 (fun r47_0 r47_1 r47_2 w46=>S10 w46/\wrOk w46 (Addr.mk w15.heap.size 0 none)/\
 (let w48:=w46.setCell (Addr.mk w15.heap.size 0 none) (Value.bool r16_0)
 wrOk w48 (Addr.mk w15.heap.size 1 none)/\
 (let w49:=w48.setCell (Addr.mk w15.heap.size 1 none) (Value.int .u64 r16_1)
 wrOk w49 (Addr.mk w15.heap.size 2 none)/\
 (let w50:=w49.setCell (Addr.mk w15.heap.size 2 none) (Value.int .u64 r16_2)
 S10 w50/\wrOk w50 (Addr.mk w35.heap.size 0 none)/\
 (let w51:=w50.setCell (Addr.mk w35.heap.size 0 none) (Value.bool r47_0)
 wrOk w51 (Addr.mk w35.heap.size 1 none)/\
 (let w52:=w51.setCell (Addr.mk w35.heap.size 1 none) (Value.int .u64 r47_1)
 wrOk w52 (Addr.mk w35.heap.size 2 none)/\
 (let w53:=w52.setCell (Addr.mk w35.heap.size 2 none) (Value.int .u64 r47_2)
 z4z_k0 (Addr.mk w.heap.size 0 none) (Addr.mk w1.heap.size 0 none) (Addr.mk w15.heap.size 0 none) (Addr.mk w35.heap.size 0 none) K w53))))))) w45))
/\(let w54:=w15.alloc (Obj.cells #[(Value.bool false),(Value.int .u64 0),(Value.int .u64 0)] 169)
 S10 w54/\(z56_sh x13 x14 (fun r56_0 r56_1 r56_2 w55=>S10 w55/\let w57:=w55.alloc (Obj.cells #[(Value.bool false),(Value.int .u64 0),(Value.int .u64 0)] 169)
 S10 w57/\wrOk w57 (Addr.mk w55.heap.size 0 none)/\
 (let w58:=w57.setCell (Addr.mk w55.heap.size 0 none) (Value.bool r16_0)
 wrOk w58 (Addr.mk w55.heap.size 1 none)/\
 (let w59:=w58.setCell (Addr.mk w55.heap.size 1 none) (Value.int .u64 r16_1)
 wrOk w59 (Addr.mk w55.heap.size 2 none)/\
 (let w60:=w59.setCell (Addr.mk w55.heap.size 2 none) (Value.int .u64 r16_2)
 S10 w60/\wrOk w60 (Addr.mk w15.heap.size 0 none)/\
 (let w61:=w60.setCell (Addr.mk w15.heap.size 0 none) (Value.bool r56_0)
 wrOk w61 (Addr.mk w15.heap.size 1 none)/\
 (let w62:=w61.setCell (Addr.mk w15.heap.size 1 none) (Value.int .u64 r56_1)
 wrOk w62 (Addr.mk w15.heap.size 2 none)/\
 (let w63:=w62.setCell (Addr.mk w15.heap.size 2 none) (Value.int .u64 r56_2)
 z4z_k0 (Addr.mk w.heap.size 0 none) (Addr.mk w1.heap.size 0 none) (Addr.mk w55.heap.size 0 none) (Addr.mk w15.heap.size 0 none) K w63))))))) w54)
/\(let w64:=w54.alloc (Obj.cells #[(Value.bool false),(Value.int .u64 0),(Value.int .u64 0)] 169)
 S10 w64/\z56_sh x13 x14 (fun r66_0 r66_1 r66_2 w65=>S10 w65/\wrOk w65 (Addr.mk w54.heap.size 0 none)/\
 (let w67:=w65.setCell (Addr.mk w54.heap.size 0 none) (Value.bool r16_0)
 wrOk w67 (Addr.mk w54.heap.size 1 none)/\
 (let w68:=w67.setCell (Addr.mk w54.heap.size 1 none) (Value.int .u64 r16_1)
 wrOk w68 (Addr.mk w54.heap.size 2 none)/\
 (let w69:=w68.setCell (Addr.mk w54.heap.size 2 none) (Value.int .u64 r16_2)
 S10 w69/\wrOk w69 (Addr.mk w15.heap.size 0 none)/\
 (let w70:=w69.setCell (Addr.mk w15.heap.size 0 none) (Value.bool r66_0)
 wrOk w70 (Addr.mk w15.heap.size 1 none)/\
 (let w71:=w70.setCell (Addr.mk w15.heap.size 1 none) (Value.int .u64 r66_1)
 wrOk w71 (Addr.mk w15.heap.size 2 none)/\
 (let w72:=w71.setCell (Addr.mk w15.heap.size 2 none) (Value.int .u64 r66_2)
 z4z_k0 (Addr.mk w.heap.size 0 none) (Addr.mk w1.heap.size 0 none) (Addr.mk w54.heap.size 0 none) (Addr.mk w15.heap.size 0 none) K w72))))))) w64))) w9)
/\(let w73:=w9.alloc (Obj.cells #[(Value.bool false),(Value.int .u64 0),(Value.int .u64 0)] 169)
 S10 w73/\(z56_sh x11 x12 (fun r75_0 r75_1 r75_2 w74=>S10 w74/\(z56_sh x13 x14 (fun r77_0 r77_1 r77_2 w76=>S10 w76/\let w78:=w76.alloc (Obj.cells #[(Value.bool false),(Value.int .u64 0),(Value.int .u64 0)] 169)
 S10 w78/\wrOk w78 (Addr.mk w9.heap.size 0 none)/\
 (let w79:=w78.setCell (Addr.mk w9.heap.size 0 none) (Value.bool r75_0)
 wrOk w79 (Addr.mk w9.heap.size 1 none)/\
 (let w80:=w79.setCell (Addr.mk w9.heap.size 1 none) (Value.int .u64 r75_1)
 wrOk w80 (Addr.mk w9.heap.size 2 none)/\
 (let w81:=w80.setCell (Addr.mk w9.heap.size 2 none) (Value.int .u64 r75_2)
 S10 w81/\wrOk w81 (Addr.mk w76.heap.size 0 none)/\
 (let w82:=w81.setCell (Addr.mk w76.heap.size 0 none) (Value.bool r77_0)
 wrOk w82 (Addr.mk w76.heap.size 1 none)/\
 (let w83:=w82.setCell (Addr.mk w76.heap.size 1 none) (Value.int .u64 r77_1)
 wrOk w83 (Addr.mk w76.heap.size 2 none)/\
 (let w84:=w83.setCell (Addr.mk w76.heap.size 2 none) (Value.int .u64 r77_2)
 z4z_k0 (Addr.mk w.heap.size 0 none) (Addr.mk w1.heap.size 0 none) (Addr.mk w9.heap.size 0 none) (Addr.mk w76.heap.size 0 none) K w84))))))) w74)
/\(let w85:=w74.alloc (Obj.cells #[(Value.bool false),(Value.int .u64 0),(Value.int .u64 0)] 169)
 S10 w85/\z56_sh x13 x14 (fun r87_0 r87_1 r87_2 w86=>S10 w86/\wrOk w86 (Addr.mk w9.heap.size 0 none)/\
 (let w88:=w86.setCell (Addr.mk w9.heap.size 0 none) (Value.bool r75_0)
 wrOk w88 (Addr.mk w9.heap.size 1 none)/\
 (let w89:=w88.setCell (Addr.mk w9.heap.size 1 none) (Value.int .u64 r75_1)
 wrOk w89 (Addr.mk w9.heap.size 2 none)/\
 (let w90:=w89.setCell (Addr.mk w9.heap.size 2 none) (Value.int .u64 r75_2)
 S10 w90/\wrOk w90 (Addr.mk w74.heap.size 0 none)/\
 (let w91:=w90.setCell (Addr.mk w74.heap.size 0 none) (Value.bool r87_0)
 wrOk w91 (Addr.mk w74.heap.size 1 none)/\
 (let w92:=w91.setCell (Addr.mk w74.heap.size 1 none) (Value.int .u64 r87_1)
 wrOk w92 (Addr.mk w74.heap.size 2 none)/\
 (let w93:=w92.setCell (Addr.mk w74.heap.size 2 none) (Value.int .u64 r87_2)
 z4z_k0 (Addr.mk w.heap.size 0 none) (Addr.mk w1.heap.size 0 none) (Addr.mk w9.heap.size 0 none) (Addr.mk w74.heap.size 0 none) K w93))))))) w85)) w73)
/\(let w94:=w73.alloc (Obj.cells #[(Value.bool false),(Value.int .u64 0),(Value.int .u64 0)] 169)
 S10 w94/\z56_sh x11 x12 (fun r96_0 r96_1 r96_2 w95=>S10 w95/\z56_sh x13 x14 (fun r98_0 r98_1 r98_2 w97=>S10 w97/\wrOk w97 (Addr.mk w9.heap.size 0 none)/\
 (let w99:=w97.setCell (Addr.mk w9.heap.size 0 none) (Value.bool r96_0)
 wrOk w99 (Addr.mk w9.heap.size 1 none)/\
 (let w100:=w99.setCell (Addr.mk w9.heap.size 1 none) (Value.int .u64 r96_1)
 wrOk w100 (Addr.mk w9.heap.size 2 none)/\
 (let w101:=w100.setCell (Addr.mk w9.heap.size 2 none) (Value.int .u64 r96_2)
 S10 w101/\wrOk w101 (Addr.mk w73.heap.size 0 none)/\
 (let w102:=w101.setCell (Addr.mk w73.heap.size 0 none) (Value.bool r98_0)
 wrOk w102 (Addr.mk w73.heap.size 1 none)/\
 (let w103:=w102.setCell (Addr.mk w73.heap.size 1 none) (Value.int .u64 r98_1)
 wrOk w103 (Addr.mk w73.heap.size 2 none)/\
 (let w104:=w103.setCell (Addr.mk w73.heap.size 2 none) (Value.int .u64 r98_2)
 z4z_k0 (Addr.mk w.heap.size 0 none) (Addr.mk w1.heap.size 0 none) (Addr.mk w9.heap.size 0 none) (Addr.mk w73.heap.size 0 none) K w104))))))) w95) w94))
/\(let w105:=w9.alloc (Obj.cells #[(Value.bool false),(Value.int .u64 0),(Value.int .u64 0)] 169)
 S10 w105/\(z56_sh x11 x12 (fun r107_0 r107_1 r107_2 w106=>S10 w106/\(z56_sh x13 x14 (fun r109_0 r109_1 r109_2 w108=>S10 w108/\let w110:=w108.alloc (Obj.cells #[(Value.bool false),(Value.int .u64 0),(Value.int .u64 0)] 169)
 S10 w110/\wrOk w110 (Addr.mk w108.heap.size 0 none)/\
 (let w111:=w110.setCell (Addr.mk w108.heap.size 0 none) (Value.bool r107_0)
 wrOk w111 (Addr.mk w108.heap.size 1 none)/\
 (let w112:=w111.setCell (Addr.mk w108.heap.size 1 none) (Value.int .u64 r107_1)
 wrOk w112 (Addr.mk w108.heap.size 2 none)/\
 (let w113:=w112.setCell (Addr.mk w108.heap.size 2 none) (Value.int .u64 r107_2)
 S10 w113/\wrOk w113 (Addr.mk w9.heap.size 0 none)/\
 (let w114:=w113.setCell (Addr.mk w9.heap.size 0 none) (Value.bool r109_0)
 wrOk w114 (Addr.mk w9.heap.size 1 none)/\
 (let w115:=w114.setCell (Addr.mk w9.heap.size 1 none) (Value.int .u64 r109_1)
 wrOk w115 (Addr.mk w9.heap.size 2 none)/\
 (let w116:=w115.setCell (Addr.mk w9.heap.size 2 none) (Value.int .u64 r109_2)
 z4z_k0 (Addr.mk w.heap.size 0 none) (Addr.mk w1.heap.size 0 none) (Addr.mk w108.heap.size 0 none) (Addr.mk w9.heap.size 0 none) K w116))))))) w106)
/\(let w117:=w106.alloc (Obj.cells #[(Value.bool false),(Value.int .u64 0),(Value.int .u64 0)] 169)
 S10 w117/\z56_sh x13 x14 (fun r119_0 r119_1 r119_2 w118=>S10 w118/\wrOk w118 (Addr.mk w106.heap.size 0 none)/\
 (let w120:=w118.setCell (Addr.mk w106.heap.size 0 none) (Value.bool r107_0)
 wrOk w120 (Addr.mk w106.heap.size 1 none)/\
 (let w121:=w120.setCell (Addr.mk w106.heap.size 1 none) (Value.int .u64 r107_1)
 wrOk w121 (Addr.mk w106.heap.size 2 none)/\
 (let w122:=w121.setCell (Addr.mk w106.heap.size 2 none) (Value.int .u64 r107_2)
 S10 w122/\wrOk w122 (Addr.mk w9.heap.size 0 none)/\
 (let w123:=w122.setCell (Addr.mk w9.heap.size 0 none) (Value.bool r119_0)
 wrOk w123 (Addr.mk w9.heap.size 1 none)/\
 (let w124:=w123.setCell (Addr.mk w9.heap.size 1 none) (Value.int .u64 r119_1)
 wrOk w124 (Addr.mk w9.heap.size 2 none)/\
 (let w125:=w124.setCell (Addr.mk w9.heap.size 2 none) (Value.int .u64 r119_2)
 z4z_k0 (Addr.mk w.heap.size 0 none) (Addr.mk w1.heap.size 0 none) (Addr.mk w106.heap.size 0 none) (Addr.mk w9.heap.size 0 none) K w125))))))) w117)) w105)
/\(let w126:=w105.alloc (Obj.cells #[(Value.bool false),(Value.int .u64 0),(Value.int .u64 0)] 169)
 S10 w126/\z56_sh x11 x12 (fun r128_0 r128_1 r128_2 w127=>S10 w127/\z56_sh x13 x14 (fun r130_0 r130_1 r130_2 w129=>S10 w129/\wrOk w129 (Addr.mk w105.heap.size 0 none)/\
 (let w131:=w129.setCell (Addr.mk w105.heap.size 0 none) (Value.bool r128_0)
 wrOk w131 (Addr.mk w105.heap.size 1 none)/\
 (let w132:=w131.setCell (Addr.mk w105.heap.size 1 none) (Value.int .u64 r128_1)
 wrOk w132 (Addr.mk w105.heap.size 2 none)/\
 (let w133:=w132.setCell (Addr.mk w105.heap.size 2 none) (Value.int .u64 r128_2)
 S10 w133/\wrOk w133 (Addr.mk w9.heap.size 0 none)/\
 (let w134:=w133.setCell (Addr.mk w9.heap.size 0 none) (Value.bool r130_0)
 wrOk w134 (Addr.mk w9.heap.size 1 none)/\
 (let w135:=w134.setCell (Addr.mk w9.heap.size 1 none) (Value.int .u64 r130_1)
 wrOk w135 (Addr.mk w9.heap.size 2 none)/\
 (let w136:=w135.setCell (Addr.mk w9.heap.size 2 none) (Value.int .u64 r130_2)
 z4z_k0 (Addr.mk w.heap.size 0 none) (Addr.mk w1.heap.size 0 none) (Addr.mk w105.heap.size 0 none) (Addr.mk w9.heap.size 0 none) K w136))))))) w127) w126)))) w2
structure z4z_sh (a_0_0 a_0_1:Int)(b_1_0 b_1_1:Int)(K:Pw.T1)(w:World):Prop where
 out:z4z_sd a_0_0 a_0_1 b_1_0 b_1_1 K w
def z4z_L0 (Kv:VW):Cur [tQ,tQ,tQ,tQ] WP:=fun a_2 b_3 x_5 y_6=>z4z_k0 a_2 b_3 x_5 y_6 (kk [tI] Kv)
noncomputable def z4z_S:Pw.Spec:=fun vs w Kv=>un [.g 2,tI,tI,.g 2,tI,tI] (fun a_0_0 a_0_1 b_1_0 b_1_1=>z4z_sh a_0_0 a_0_1 b_1_0 b_1_1 (kk [tI] Kv)) nF vs w
def z4z_A (Kv:VW):A:=(qr 3 (qs (qr 4 (qc (qr 1 ql) ql)) (qs (A.drw (dp [0,2] (DA.thr 1 (DA.thr 3 (DA.two 4 (DA.eff 5 (DA.eff 6 (DA.eff 7 DA.done))) 5 (DA.eff 4 (DA.eff 6 (DA.eff 7 DA.done)))) 4 (DA.two 3 (DA.eff 5 (DA.eff 6 (DA.eff 7 DA.done))) 5 (DA.eff 3 (DA.eff 6 (DA.eff 7 DA.done)))) 5 (DA.two 3 (DA.eff 4 (DA.eff 6 (DA.eff 7 DA.done))) 4 (DA.eff 3 (DA.eff 6 (DA.eff 7 DA.done))))) 4 (DA.two 1 (DA.two 3 (DA.eff 5 (DA.eff 6 (DA.eff 7 DA.done))) 5 (DA.eff 3 (DA.eff 6 (DA.eff 7 DA.done)))) 5 (DA.eff 1 (DA.eff 3 (DA.eff 6 (DA.eff 7 DA.done))))) 5 (DA.two 1 (DA.two 3 (DA.eff 4 (DA.eff 6 (DA.eff 7 DA.done))) 4 (DA.eff 3 (DA.eff 6 (DA.eff 7 DA.done)))) 4 (DA.eff 1 (DA.eff 3 (DA.eff 6 (DA.eff 7 DA.done)))))))) (A.cut [2,3,5,6] (uR0 [tQ,tQ,tQ,tQ] (z4z_L0 Kv)) (qs (qr 5 (qc (qr 6 ql) ql)) (qs (A.drw (dp [0,1,2,3,5,6,7,8] (DA.eff 4 (DA.eff 9 (DA.eff 10 (DA.pur 11 DA.done)))))) (qs (qr 2 (qc (qr 3 ql) ql)) (qr 2 ql))))))))
theorem z4z_ok:Sound Tryz.prog 77 z4z_S:=okS (x:=z4z_A) (fun Kv a_0_0 a_0_1 b_1_0 b_1_1=>z4z_sd a_0_0 a_0_1 b_1_0 b_1_1 (kk [tI] Kv)) progMixed (Γ:=[(125,z4u_S),(126,z56_S),(127,z49_S),(128,z3t_S),(129,z3u_S)]) ⟨.inl z4u_ok,.inl z56_ok,.inl z49_ok,.inl z3t_ok,.inl z3u_ok,trivial⟩ Tryz.call77 Tryz.func77 (fun Kv=>hStep (hCut0 (F:=z4z_L0 Kv) (G:=fun a_2 b_3 x_5 y_6=>z4z_k0d a_2 b_3 x_5 y_6 (kk [tI] Kv))) <| hEnd)
def z4i_sd (a_0_0 a_0_1:Int)(K:Pw.T1)(w:World):Prop :=
 let w1:=w.alloc (Obj.cells #[(Value.int .i64 a_0_0),(Value.int .i64 a_0_1)] 31)
 ∃ x2:Int,w1.cell? (Addr.mk w.heap.size 0 none)=some (Value.int .i64 x2)/\∃ x3:Int,w1.cell? (Addr.mk w.heap.size 1 none)=some (Value.int .i64 x3)/\z4j_sh x2 x3 (fun r5 w4=>cnd (!r5)
 (K (0:Int) w4)
 (∃ x6:Int,w4.cell? (Addr.mk w.heap.size 0 none)=some (Value.int .i64 x6)/\∃ x7:Int,w4.cell? (Addr.mk w.heap.size 1 none)=some (Value.int .i64 x7)/\x7≠0/\inR .i64 (Int.tdiv x6 x7)/\∃ x8:Int,w4.cell? (Addr.mk w.heap.size 0 none)=some (Value.int .i64 x8)/\∃ x9:Int,w4.cell? (Addr.mk w.heap.size 1 none)=some (Value.int .i64 x9)/\x9≠0/\cnd (decide ((Int.tmod x8 x9)<(0:Int)))
 (inR .i64 ((Int.tdiv x6 x7)-(1:Int))/\K ((Int.tdiv x6 x7)-(1:Int)) w4)
 (K (Int.tdiv x6 x7) w4))) w1
structure z4i_sh (a_0_0 a_0_1:Int)(K:Pw.T1)(w:World):Prop where
 out:z4i_sd a_0_0 a_0_1 K w
noncomputable def z4i_S:Pw.Spec:=fun vs w Kv=>un [.g 2,tI,tI] (fun a_0_0 a_0_1=>z4i_sh a_0_0 a_0_1 (kk [tI] Kv)) nF vs w
def z4i_A (_:VW):A:=(qr 2 (qs (qr 3 (qc (qr 1 ql) ql)) (qr 6 (qs (qr 6 (qc (qe 3) ql)) (qr 2 ql)))))
theorem z4i_ok:Sound Tryz.prog 80 z4i_S:=okS (x:=z4i_A) (fun Kv a_0_0 a_0_1=>z4i_sd a_0_0 a_0_1 (kk [tI] Kv)) progMixed (Γ:=[(38,z4j_S)]) ⟨.inl z4j_ok,trivial⟩ Tryz.call80 Tryz.func80 (fun _=>hEnd)
def z44_sd (f_0_0:Bool)(f_0_1 f_0_2:Int)(K:Pw.T4)(w:World):Prop :=
 let w1:=w.alloc (Obj.cells #[(Value.bool f_0_0),(Value.int .u64 f_0_1),(Value.int .u64 f_0_2)] 169)
 let w2:=w1.alloc (Obj.cells #[(Value.int .i64 0),(Value.int .i64 0)] 31)
 ∃ x3:Int,w2.cell? (Addr.mk w.heap.size 1 none)=some (Value.int .u64 x3)/\∃ x4:Int,w2.cell? (Addr.mk w.heap.size 2 none)=some (Value.int .u64 x4)/\z51_sh x3 x4 (fun r6 w5=>let w7:=w5.drew
 ∃ S8:World->Prop,S8 w7/\∃ x9:Bool,(∀ w':World,S8 w'->w'.cell? (Addr.mk w.heap.size 0 none)=some (Value.bool x9))/\∃ x10:Int,(∀ w':World,S8 w'->w'.cell? (Addr.mk w.heap.size 1 none)=some (Value.int .u64 x10))/\r6≠0/\inR .u64 (Int.tdiv x10 r6)/\∃ x11:Int,(∀ w':World,S8 w'->w'.cell? (Addr.mk w.heap.size 2 none)=some (Value.int .u64 x11))/\r6≠0/\inR .u64 (Int.tdiv x11 r6)/\cnd x9
 (∃ x12:Int,(∀ w':World,S8 w'->w'.cell? (Addr.mk w.heap.size 1 none)=some (Value.int .u64 x12))/\z52_sh (decide (x12>(0:Int))) (0:Int) (Int.tdiv x10 r6) (0:Int) (Int.tdiv x11 r6) (fun r14_0 r14_1 r15 w13=>S8 w13/\wrOk w13 (Addr.mk w1.heap.size 0 none)/\
 (let w16:=w13.setCell (Addr.mk w1.heap.size 0 none) (Value.int .i64 r14_0)
 wrOk w16 (Addr.mk w1.heap.size 1 none)/\
 (let w17:=w16.setCell (Addr.mk w1.heap.size 1 none) (Value.int .i64 r14_1)
 ∃ x23:Int,w17.cell? (Addr.mk w1.heap.size 0 none)=some (Value.int .i64 x23)/\∃ x24:Int,w17.cell? (Addr.mk w1.heap.size 1 none)=some (Value.int .i64 x24)/\K x23 x24 r15 w17))) w7)
 (z52_sh false (0:Int) (Int.tdiv x10 r6) (0:Int) (Int.tdiv x11 r6) (fun r19_0 r19_1 r20 w18=>S8 w18/\wrOk w18 (Addr.mk w1.heap.size 0 none)/\
 (let w21:=w18.setCell (Addr.mk w1.heap.size 0 none) (Value.int .i64 r19_0)
 wrOk w21 (Addr.mk w1.heap.size 1 none)/\
 (let w22:=w21.setCell (Addr.mk w1.heap.size 1 none) (Value.int .i64 r19_1)
 ∃ x25:Int,w22.cell? (Addr.mk w1.heap.size 0 none)=some (Value.int .i64 x25)/\∃ x26:Int,w22.cell? (Addr.mk w1.heap.size 1 none)=some (Value.int .i64 x26)/\K x25 x26 r20 w22))) w7)) w2
structure z44_sh (f_0_0:Bool)(f_0_1 f_0_2:Int)(K:Pw.T4)(w:World):Prop where
 out:z44_sd f_0_0 f_0_1 f_0_2 K w
noncomputable def z44_S:Pw.Spec:=fun vs w Kv=>un [.g 3,tB,tU,tU] (fun f_0_0 f_0_1 f_0_2=>z44_sh f_0_0 f_0_1 f_0_2 (kk [.u 2,.g 2,tI,tI,tB] Kv)) nF vs w
def z44_A (_:VW):A:=(qr 3 (qr 6 (qs (A.drw (dp [0,1,2,7,8,9,10,11,12,13,14,15,16] (DA.spl 12 (dp [3,4,5,6] (DA.eff 17 (dp [18,19] (DA.eff 20 (DA.pur 21 DA.done))))) (DA.skp 3 (DA.skp 4 (DA.skp 5 (DA.pur 6 (DA.eff 17 (dp [18,19] (DA.eff 20 (DA.pur 21 DA.done))))))))))) ql)))
theorem z44_ok:Sound Tryz.prog 214 z44_S:=okS (x:=z44_A) (fun Kv f_0_0 f_0_1 f_0_2=>z44_sd f_0_0 f_0_1 f_0_2 (kk [.u 2,.g 2,tI,tI,tB] Kv)) progMixed (Γ:=[(73,z51_S),(179,z52_S)]) ⟨.inl z51_ok,.inl z52_ok,trivial⟩ Tryz.call214 Tryz.func214 (fun _=>hEnd)
def z4t_sd (num_0 den_1:Int)(K:Pw.T4)(w:World):Prop :=
 let w1:=w.alloc (Obj.cells #[(Value.int .i64 0),(Value.int .i64 0)] 31)
 cnd (den_1 == (0:Int))
 (z4w_sh (fun r3_0 r3_1 w2=>wrOk w2 (Addr.mk w.heap.size 0 none)/\
 (let w4:=w2.setCell (Addr.mk w.heap.size 0 none) (Value.int .i64 r3_0)
 wrOk w4 (Addr.mk w.heap.size 1 none)/\
 (let w5:=w4.setCell (Addr.mk w.heap.size 1 none) (Value.int .i64 r3_1)
 ∃ x6:Int,w5.cell? (Addr.mk w.heap.size 0 none)=some (Value.int .i64 x6)/\∃ x7:Int,w5.cell? (Addr.mk w.heap.size 1 none)=some (Value.int .i64 x7)/\K x6 x7 false w5))) w1)
 (z4v_sh num_0 (fun r9 w8=>z4v_sh den_1 (fun r11 w10=>z44_sh (!((decide (num_0<(0:Int))) == (decide (den_1<(0:Int))))) r9 r11 (fun r13_0 r13_1 r14 w12=>wrOk w12 (Addr.mk w.heap.size 0 none)/\
 (let w15:=w12.setCell (Addr.mk w.heap.size 0 none) (Value.int .i64 r13_0)
 wrOk w15 (Addr.mk w.heap.size 1 none)/\
 (let w16:=w15.setCell (Addr.mk w.heap.size 1 none) (Value.int .i64 r13_1)
 ∃ x17:Int,w16.cell? (Addr.mk w.heap.size 0 none)=some (Value.int .i64 x17)/\∃ x18:Int,w16.cell? (Addr.mk w.heap.size 1 none)=some (Value.int .i64 x18)/\K x17 x18 r14 w16))) w10) w8) w1)
structure z4t_sh (num_0 den_1:Int)(K:Pw.T4)(w:World):Prop where
 out:z4t_sd num_0 den_1 K w
noncomputable def z4t_S:Pw.Spec:=fun vs w Kv=>un [tI,tI] (fun num_0 den_1=>z4t_sh num_0 den_1 (kk [.u 2,.g 2,tI,tI,tB] Kv)) nF vs w
def z4t_A (_:VW):A:=(qr 2 (qs (qr 2 (qc (qr 3 ql) ql)) (qr 15 ql)))
theorem z4t_ok:Sound Tryz.prog 190 z4t_S:=okS (x:=z4t_A) (fun Kv num_0 den_1=>z4t_sd num_0 den_1 (kk [.u 2,.g 2,tI,tI,tB] Kv)) progMixed (Γ:=[(74,z4v_S),(175,z4w_S),(214,z44_S)]) ⟨.inl z4v_ok,.inl z4w_ok,.inl z44_ok,trivial⟩ Tryz.call190 Tryz.func190 (fun _=>hEnd)
end Go.Proofs.YtfpobpjandjhjaaGreatDoor
