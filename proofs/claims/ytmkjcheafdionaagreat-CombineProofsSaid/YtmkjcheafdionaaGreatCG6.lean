/- The bodies' formulas, by program. -/
import Derived.Test.YtmkjcheafdionaaGreatProg
import Derived.KernelRfl
import Derived.Test.YtmkjcheafdionaaGreatPwY
import Derived.Test.YtmkjcheafdionaaGreatCG0
import Derived.Test.YtmkjcheafdionaaGreatCG1
import Derived.Test.YtmkjcheafdionaaGreatCG2
import Derived.Test.YtmkjcheafdionaaGreatCG3
import Derived.Test.YtmkjcheafdionaaGreatCG4
import Derived.Test.YtmkjcheafdionaaGreatCG5
set_option maxRecDepth 20000
namespace Go.Proofs.YtmkjcheafdionaaGreat
open Go Pw
def z0x_k0d (t_6 p_7:Addr) (K:Pw.T6) (w:World):Prop :=
 ∃ x10:Sl, w.cell? p_7=some (Value.slice x10.p x10.l x10.c)/\∃ x11:Sl, w.cell? (p_7.add 1)=some (Value.slice x11.p x11.l x11.c)/\∃ x12:Sl, w.cell? (p_7.add 2)=some (Value.slice x12.p x12.l x12.c)/\∃ x13:Int, w.cell? (p_7.add 3)=some (Value.int .i64 x13)/\∃ x14:Int, w.cell? (p_7.add 4)=some (Value.int .i64 x14)/\stN w t_6 [(Value.slice x10.p x10.l x10.c), (Value.slice x11.p x11.l x11.c), (Value.slice x12.p x12.l x12.c), (Value.int .i64 x13), (Value.int .i64 x14)] fun w15=>∃ x16:Sl, w15.cell? t_6=some (Value.slice x16.p x16.l x16.c)/\∃ x17:Sl, w15.cell? (t_6.add 1)=some (Value.slice x17.p x17.l x17.c)/\∃ x18:Sl, w15.cell? (t_6.add 2)=some (Value.slice x18.p x18.l x18.c)/\∃ x19:Int, w15.cell? (t_6.add 3)=some (Value.int .i64 x19)/\∃ x20:Int, w15.cell? (t_6.add 4)=some (Value.int .i64 x20)/\K x16 x17 x18 x19 x20 w15
structure z0x_k0 (t_6 p_7:Addr) (K:Pw.T6) (w:World):Prop where
 out:z0x_k0d t_6 p_7 K w
def z0x_sd (budget_0 most_1 off_2:Int) (K:Pw.T6) (w:World):Prop :=
 let w1 := w.alloc (Obj.cells #[(Value.slice none 0 0), (Value.slice none 0 0), (Value.slice none 0 0), (Value.int .i64 0), (Value.int .i64 0)] 27)
 let w2 := w1.alloc (Obj.cells #[(Value.int .i64 1), (Value.int .i64 2)] 3)
 let w3 := w2.alloc (Obj.cells #[(Value.slice none 0 0), (Value.slice none 0 0), (Value.slice none 0 0), (Value.int .i64 0), (Value.int .i64 0)] 27)
 stN w3 (Addr.mk w2.heap.size 0 none) [(Value.slice (some (Addr.mk w1.heap.size 0 none)) 2 2), (Value.slice none 0 0), (Value.slice none 0 0), (Value.int .i64 most_1), (Value.int .i64 budget_0)] fun w4=>let w5 := w4.alloc (Obj.cells #[(Value.int .i64 1), (Value.int .i64 5), (Value.int .i64 10), (Value.int .i64 8), (Value.int .i64 1), (Value.int .i64 6), (Value.int .i64 7), (Value.int .i64 6), (Value.int .i64 2), (Value.int .i64 5), (Value.int .i64 9), (Value.int .i64 7)] 65)
 wrOk w5 (Addr.mk w2.heap.size 1 none)/\
 (let w6 := w5.setCell (Addr.mk w2.heap.size 1 none) (Value.slice (some (Addr.mk w4.heap.size 0 none)) 3 3)
 cnd (decide (off_2 > (0:Int)))
 (let w7 := w6.alloc (Obj.cells #[(Value.int .i64 1), (Value.int .i64 2)] 3)
 let w8 := w7.alloc (Obj.cells #[(Value.int .i64 5), (Value.slice (some (Addr.mk w6.heap.size 0 none)) 2 2), (Value.int .i64 off_2)] 67)
 wrOk w8 (Addr.mk w2.heap.size 2 none)/\
 (let w9 := w8.setCell (Addr.mk w2.heap.size 2 none) (Value.slice (some (Addr.mk w7.heap.size 0 none)) 1 1)
 z0x_k0 (Addr.mk w.heap.size 0 none) (Addr.mk w2.heap.size 0 none) K w9))
 (z0x_k0 (Addr.mk w.heap.size 0 none) (Addr.mk w2.heap.size 0 none) K w6))
structure z0x_sh (budget_0 most_1 off_2:Int) (K:Pw.T6) (w:World):Prop where
 out:z0x_sd budget_0 most_1 off_2 K w
def z0x_L0 (Kv:VW):Cur [tQ, tQ] WP := fun t_6 p_7=>z0x_k0 t_6 p_7 (kk [.g 5, tL, tL, tL, tI, tI] Kv)
noncomputable def z0x_S:Pw.Spec := fun vs w Kv=>un [tI, tI, tI] (fun budget_0 most_1 off_2=>z0x_sh budget_0 most_1 off_2 (kk [.g 5, tL, tL, tL, tI, tI] Kv)) nF vs w
def z0x_A (Kv:VW):A := (qr 1 (qr 6 (qr 6 (qs (qr 2 (qc (qe 6) ql)) (A.cut [6, 7] (uR0 [tQ, tQ] (z0x_L0 Kv)) (qr 2 ql))))))
theorem z0x_ok:Sound Tryz.prog 26 z0x_S := okS (x := z0x_A) (fun Kv budget_0 most_1 off_2=>z0x_sd budget_0 most_1 off_2 (kk [.g 5, tL, tL, tL, tI, tI] Kv)) progMixed (Γ := []) trivial Tryz.call26 Tryz.func26 (fun Kv=>hStep (hCut0 (F := z0x_L0 Kv) (G := fun t_6 p_7=>z0x_k0d t_6 p_7 (kk [.g 5, tL, tL, tL, tI, tI] Kv))) <| hEnd)
def z1k_sd (p_0_0 p_0_1 p_0_2:Sl) (p_0_3 p_0_4:Int) (want_1:Sl) (points_2:Int) (K:Pw.T0) (w:World):Prop :=
 let w1 := w.alloc (Obj.cells #[(Value.slice p_0_0.p p_0_0.l p_0_0.c), (Value.slice p_0_1.p p_0_1.l p_0_1.c), (Value.slice p_0_2.p p_0_2.l p_0_2.c), (Value.int .i64 p_0_3), (Value.int .i64 p_0_4)] 27)
 ∃ x2:Sl, w1.cell? (Addr.mk w.heap.size 0 none)=some (Value.slice x2.p x2.l x2.c)/\∃ x3:Sl, w1.cell? (Addr.mk w.heap.size 1 none)=some (Value.slice x3.p x3.l x3.c)/\∃ x4:Sl, w1.cell? (Addr.mk w.heap.size 2 none)=some (Value.slice x4.p x4.l x4.c)/\∃ x5:Int, w1.cell? (Addr.mk w.heap.size 3 none)=some (Value.int .i64 x5)/\∃ x6:Int, w1.cell? (Addr.mk w.heap.size 4 none)=some (Value.int .i64 x6)/\z33_sh x2 x3 x4 x5 x6 (1000:Int) (fun r8_0 r8_1 r8_2 r8_3 r9 w7=>let w10 := w7.alloc (Obj.cells #[(Value.slice none 0 0), (Value.int .i64 0), (Value.int .i64 0), (Value.slice none 0 0)] 31)
 stN w10 (Addr.mk w7.heap.size 0 none) [(Value.slice r8_0.p r8_0.l r8_0.c), (Value.int .i64 r8_1), (Value.int .i64 r8_2), (Value.slice r8_3.p r8_3.l r8_3.c)] fun w11=>cnd (r9 == (0:Int))
 (∃ x12:Sl, w11.cell? (Addr.mk w7.heap.size 0 none)=some (Value.slice x12.p x12.l x12.c)/\z23_sh x12 want_1 (fun r14 w13=>cnd r14
 (∃ x15:Int, w13.cell? (Addr.mk w7.heap.size 1 none)=some (Value.int .i64 x15)/\cnd (x15 == points_2)
 (∃ x16:Int, w13.cell? (Addr.mk w7.heap.size 2 none)=some (Value.int .i64 x16)/\K (x16 == points_2) w13)
 (K false w13))
 (K false w13)) w11)
 (K false w11)) w1
structure z1k_sh (p_0_0 p_0_1 p_0_2:Sl) (p_0_3 p_0_4:Int) (want_1:Sl) (points_2:Int) (K:Pw.T0) (w:World):Prop where
 out:z1k_sd p_0_0 p_0_1 p_0_2 p_0_3 p_0_4 want_1 points_2 K w
noncomputable def z1k_S:Pw.Spec := fun vs w Kv=>un [.g 5, tL, tL, tL, tI, tI, tL, tI] (fun p_0_0 p_0_1 p_0_2 p_0_3 p_0_4 want_1 points_2=>z1k_sh p_0_0 p_0_1 p_0_2 p_0_3 p_0_4 want_1 points_2 (kk [tB] Kv)) nF vs w
def z1k_A (_:VW):A := (qr 2 (qr 8 (qs (A.reg (qn 3 (RA.spl 16 (qn 6 (RA.spl 22 (qn 6 (RA.spl 28 (qn 6 RA.done) (qk 4 (qn 2 RA.done)))) (qk 4 (qn 2 (qk 4 (qn 2 RA.done)))))) (qk 4 (qn 2 (qk 4 (qn 2 (qk 4 (qn 2 RA.done))))))))) ql)))
theorem z1k_ok:Sound Tryz.prog 25 z1k_S := okS (x := z1k_A) (fun Kv p_0_0 p_0_1 p_0_2 p_0_3 p_0_4 want_1 points_2=>z1k_sd p_0_0 p_0_1 p_0_2 p_0_3 p_0_4 want_1 points_2 (kk [tB] Kv)) progMixed (Γ := [(11, z33_S), (15, z23_S)]) ⟨.inl z33_ok, .inl z23_ok, trivial⟩ Tryz.call25 Tryz.func25 (fun _=>hEnd)
def z17_k1d (one_1 two_2:Bool) (K:Pw.T0) (w:World):Prop :=
 z0x_sh (18:Int) (0:Int) (1:Int) (fun r27_0 r27_1 r27_2 r27_3 r27_4 w26=>let w28 := w26.alloc (Obj.cells #[(Value.int .i64 0), (Value.int .i64 2)] 3)
 z3a_sh r27_0 r27_1 r27_2 r27_3 r27_4 (Sl.mk (some (Addr.mk w26.heap.size 0 none)) 2 2) (fun r30 r31 w29=>cnd one_1
 (cnd two_2
 (cnd (r30 == (18:Int))
 (K r31 w29)
 (K false w29))
 (K false w29))
 (K false w29)) w28) w
structure z17_k1 (one_1 two_2:Bool) (K:Pw.T0) (w:World):Prop where
 out:z17_k1d one_1 two_2 K w
def z17_k0d (one_1:Bool) (K:Pw.T0) (w:World):Prop :=
 z0x_sh (19:Int) (1:Int) (0:Int) (fun r17_0 r17_1 r17_2 r17_3 r17_4 w16=>let w18 := w16.alloc (Obj.cells #[(Value.int .i64 1), (Value.int .i64 2)] 3)
 z1k_sh r17_0 r17_1 r17_2 r17_3 r17_4 (Sl.mk (some (Addr.mk w16.heap.size 0 none)) 2 2) (13:Int) (fun r20 w19=>cnd r20
 (z0x_sh (6:Int) (0:Int) (0:Int) (fun r22_0 r22_1 r22_2 r22_3 r22_4 w21=>let w23 := w21.alloc (Obj.cells #[(Value.int .i64 (-1)), (Value.int .i64 (-1))] 3)
 z1k_sh r22_0 r22_1 r22_2 r22_3 r22_4 (Sl.mk (some (Addr.mk w21.heap.size 0 none)) 2 2) (0:Int) (fun r25 w24=>z17_k1 one_1 r25 K w24) w23) w19)
 (z17_k1 one_1 false K w19)) w18) w
structure z17_k0 (one_1:Bool) (K:Pw.T0) (w:World):Prop where
 out:z17_k0d one_1 K w
def z17_sd (K:Pw.T0) (w:World):Prop :=
 z0x_sh (19:Int) (0:Int) (0:Int) (fun r2_0 r2_1 r2_2 r2_3 r2_4 w1=>let w3 := w1.alloc (Obj.cells #[(Value.int .i64 0), (Value.int .i64 2)] 3)
 z1k_sh r2_0 r2_1 r2_2 r2_3 r2_4 (Sl.mk (some (Addr.mk w1.heap.size 0 none)) 2 2) (15:Int) (fun r5 w4=>cnd r5
 (z0x_sh (18:Int) (0:Int) (0:Int) (fun r7_0 r7_1 r7_2 r7_3 r7_4 w6=>let w8 := w6.alloc (Obj.cells #[(Value.int .i64 1), (Value.int .i64 2)] 3)
 z1k_sh r7_0 r7_1 r7_2 r7_3 r7_4 (Sl.mk (some (Addr.mk w6.heap.size 0 none)) 2 2) (13:Int) (fun r10 w9=>cnd r10
 (z0x_sh (18:Int) (0:Int) (1:Int) (fun r12_0 r12_1 r12_2 r12_3 r12_4 w11=>let w13 := w11.alloc (Obj.cells #[(Value.int .i64 0), (Value.int .i64 2)] 3)
 z1k_sh r12_0 r12_1 r12_2 r12_3 r12_4 (Sl.mk (some (Addr.mk w11.heap.size 0 none)) 2 2) (15:Int) (fun r15 w14=>z17_k0 r15 K w14) w13) w9)
 (z17_k0 false K w9)) w8) w4)
 (z17_k0 false K w4)) w3) w
structure z17_sh (K:Pw.T0) (w:World):Prop where
 out:z17_sd K w
def z17_L0 (Kv:VW):Cur [tB] WP := fun one_1=>z17_k0 one_1 (kk [tB] Kv)
def z17_L1 (Kv:VW):Cur [tB, tB] WP := fun one_1 two_2=>z17_k1 one_1 two_2 (kk [tB] Kv)
noncomputable def z17_S:Pw.Spec := fun vs w Kv=>un [] (z17_sh (kk [tB] Kv)) nF vs w
def z17_A (Kv:VW):A := (qr 1 (qs (A.reg (qn 4 (RA.spl 8 (qn 5 (RA.spl 13 (qn 5 RA.done) (qk 3 (qn 2 RA.done)))) (qk 3 (qn 2 (qk 3 (qn 2 RA.done))))))) (A.cut [1] (uR0 [tB] (z17_L0 Kv)) (qs (A.reg (qn 4 (RA.spl 21 (qn 5 RA.done) (qk 3 (qn 2 RA.done))))) (A.cut [1, 2] (uR0 [tB, tB] (z17_L1 Kv)) (qr 8 (qs (A.reg (qn 2 (RA.spl 33 (qn 3 (RA.spl 36 (qn 4 (RA.spl 40 (qn 3 RA.done) (qk 1 (qn 2 RA.done)))) (qk 2 (qn 2 (qk 1 (qn 2 RA.done)))))) (qk 1 (qn 2 (qk 2 (qn 2 (qk 1 (qn 2 RA.done))))))))) ql)))))))
theorem z17_ok:Sound Tryz.prog 9 z17_S := okS (x := z17_A) (fun Kv=>z17_sd (kk [tB] Kv)) progMixed (Γ := [(22, z3a_S), (25, z1k_S), (26, z0x_S)]) ⟨.inl z3a_ok, .inl z1k_ok, .inl z0x_ok, trivial⟩ Tryz.call9 Tryz.func9 (fun Kv=>hStep (hCut0 (F := z17_L0 Kv) (G := fun one_1=>z17_k0d one_1 (kk [tB] Kv))) <| hStep (hCut0 (F := z17_L1 Kv) (G := fun one_1 two_2=>z17_k1d one_1 two_2 (kk [tB] Kv))) <| hEnd)
def z03_k0d (up_3:Bool) (p_4 r_5:Addr) (e_6:Int) (K:Pw.T0) (w:World):Prop :=
 cnd up_3
 (cnd (e_6 == (0:Int))
 (∃ x38:Sl, w.cell? p_4=some (Value.slice x38.p x38.l x38.c)/\∃ x39:Sl, w.cell? (p_4.add 1)=some (Value.slice x39.p x39.l x39.c)/\∃ x40:Sl, w.cell? (p_4.add 2)=some (Value.slice x40.p x40.l x40.c)/\∃ x41:Int, w.cell? (p_4.add 3)=some (Value.int .i64 x41)/\∃ x42:Int, w.cell? (p_4.add 4)=some (Value.int .i64 x42)/\∃ x43:Sl, w.cell? r_5=some (Value.slice x43.p x43.l x43.c)/\∃ x44:Int, w.cell? (r_5.add 1)=some (Value.int .i64 x44)/\∃ x45:Int, w.cell? (r_5.add 2)=some (Value.int .i64 x45)/\∃ x46:Sl, w.cell? (r_5.add 3)=some (Value.slice x46.p x46.l x46.c)/\z1s_sh x38 x39 x40 x41 x42 x43 x44 x45 x46 (fun r48 w47=>K r48 w47) w)
 (K false w))
 (K false w)
structure z03_k0 (up_3:Bool) (p_4 r_5:Addr) (e_6:Int) (K:Pw.T0) (w:World):Prop where
 out:z03_k0d up_3 p_4 r_5 e_6 K w
def z03_sd (l_0:Sl) (K:Pw.T0) (w:World):Prop :=
 z17_sh (fun r2 w1=>z24_sh l_0 (fun r4_0 r4_1 r4_2 r4_3 r4_4 w3=>let w5 := w3.alloc (Obj.cells #[(Value.slice none 0 0), (Value.slice none 0 0), (Value.slice none 0 0), (Value.int .i64 0), (Value.int .i64 0)] 27)
 stN w5 (Addr.mk w3.heap.size 0 none) [(Value.slice r4_0.p r4_0.l r4_0.c), (Value.slice r4_1.p r4_1.l r4_1.c), (Value.slice r4_2.p r4_2.l r4_2.c), (Value.int .i64 r4_3), (Value.int .i64 r4_4)] fun w6=>let w7 := w6.drew
 ∃ S8:World->Prop, S8 w7/\∃ x9:Sl, (∀ w':World, S8 w'->w'.cell? (Addr.mk w3.heap.size 0 none)=some (Value.slice x9.p x9.l x9.c))/\∃ x10:Sl, (∀ w':World, S8 w'->w'.cell? (Addr.mk w3.heap.size 1 none)=some (Value.slice x10.p x10.l x10.c))/\∃ x11:Sl, (∀ w':World, S8 w'->w'.cell? (Addr.mk w3.heap.size 2 none)=some (Value.slice x11.p x11.l x11.c))/\∃ x12:Int, (∀ w':World, S8 w'->w'.cell? (Addr.mk w3.heap.size 3 none)=some (Value.int .i64 x12))/\∃ x13:Int, (∀ w':World, S8 w'->w'.cell? (Addr.mk w3.heap.size 4 none)=some (Value.int .i64 x13))/\∃ x14:Sl, (∀ w':World, S8 w'->w'.cell? (Addr.mk w3.heap.size 0 none)=some (Value.slice x14.p x14.l x14.c))/\∃ x15:Sl, (∀ w':World, S8 w'->w'.cell? (Addr.mk w3.heap.size 1 none)=some (Value.slice x15.p x15.l x15.c))/\∃ x16:Sl, (∀ w':World, S8 w'->w'.cell? (Addr.mk w3.heap.size 2 none)=some (Value.slice x16.p x16.l x16.c))/\∃ x17:Int, (∀ w':World, S8 w'->w'.cell? (Addr.mk w3.heap.size 3 none)=some (Value.int .i64 x17))/\∃ x18:Int, (∀ w':World, S8 w'->w'.cell? (Addr.mk w3.heap.size 4 none)=some (Value.int .i64 x18))/\(z0n_sh x14 x15 x16 x17 x18 (fun r20 w19=>S8 w19/\(z33_sh x9 x10 x11 x12 x13 r20 (fun r22_0 r22_1 r22_2 r22_3 r23 w21=>S8 w21/\let w24 := w21.alloc (Obj.cells #[(Value.slice none 0 0), (Value.int .i64 0), (Value.int .i64 0), (Value.slice none 0 0)] 31)
 S8 w24/\stN w24 (Addr.mk w21.heap.size 0 none) [(Value.slice r22_0.p r22_0.l r22_0.c), (Value.int .i64 r22_1), (Value.int .i64 r22_2), (Value.slice r22_3.p r22_3.l r22_3.c)] fun w25=>z03_k0 r2 (Addr.mk w3.heap.size 0 none) (Addr.mk w21.heap.size 0 none) r23 K w25) w19)
/\(let w26 := w19.alloc (Obj.cells #[(Value.slice none 0 0), (Value.int .i64 0), (Value.int .i64 0), (Value.slice none 0 0)] 31)
 S8 w26/\z33_sh x9 x10 x11 x12 x13 r20 (fun r28_0 r28_1 r28_2 r28_3 r29 w27=>S8 w27/\stN w27 (Addr.mk w19.heap.size 0 none) [(Value.slice r28_0.p r28_0.l r28_0.c), (Value.int .i64 r28_1), (Value.int .i64 r28_2), (Value.slice r28_3.p r28_3.l r28_3.c)] fun w30=>z03_k0 r2 (Addr.mk w3.heap.size 0 none) (Addr.mk w19.heap.size 0 none) r29 K w30) w26)) w7)
/\(let w31 := w7.alloc (Obj.cells #[(Value.slice none 0 0), (Value.int .i64 0), (Value.int .i64 0), (Value.slice none 0 0)] 31)
 S8 w31/\z0n_sh x14 x15 x16 x17 x18 (fun r33 w32=>S8 w32/\z33_sh x9 x10 x11 x12 x13 r33 (fun r35_0 r35_1 r35_2 r35_3 r36 w34=>S8 w34/\stN w34 (Addr.mk w7.heap.size 0 none) [(Value.slice r35_0.p r35_0.l r35_0.c), (Value.int .i64 r35_1), (Value.int .i64 r35_2), (Value.slice r35_3.p r35_3.l r35_3.c)] fun w37=>z03_k0 r2 (Addr.mk w3.heap.size 0 none) (Addr.mk w7.heap.size 0 none) r36 K w37) w32) w31)) w1) w
structure z03_sh (l_0:Sl) (K:Pw.T0) (w:World):Prop where
 out:z03_sd l_0 K w
def z03_L0 (Kv:VW):Cur [tB, tQ, tQ, tI] WP := fun up_3 p_4 r_5 e_6=>z03_k0 up_3 p_4 r_5 e_6 (kk [tB] Kv)
noncomputable def z03_S:Pw.Spec := fun vs w Kv=>un [tL] (fun l_0=>z03_sh l_0 (kk [tB] Kv)) nF vs w
def z03_A (Kv:VW):A := (qr 1 (qr 2 (qr 4 (qs (A.drw (dp [0, 1] (DA.two 2 (DA.two 3 (dp [4, 5, 6] (DA.eff 7 (DA.eff 8 (DA.pur 9 DA.done)))) 7 (DA.eff 3 (dp [4, 5, 6] (DA.eff 8 (DA.pur 9 DA.done))))) 7 (DA.eff 2 (DA.eff 3 (dp [4, 5, 6] (DA.eff 8 (DA.pur 9 DA.done)))))))) (A.cut [3, 4, 5, 6] (uR0 [tB, tQ, tQ, tI] (z03_L0 Kv)) (qs (A.reg (qn 2 (RA.spl 18 (qn 4 (RA.spl 22 (qn 5 RA.done) (qk 3 (qn 2 RA.done)))) (qk 2 (qn 2 (qk 3 (qn 2 RA.done))))))) ql))))))
theorem z03_ok:Sound Tryz.prog 4 z03_S := okS (x := z03_A) (fun Kv l_0=>z03_sd l_0 (kk [tB] Kv)) progMixed (Γ := [(9, z17_S), (10, z24_S), (11, z33_S), (12, z0n_S), (16, z1s_S)]) ⟨.inl z17_ok, .inl z24_ok, .inl z33_ok, .inl z0n_ok, .inl z1s_ok, trivial⟩ Tryz.call4 Tryz.func4 (fun Kv=>hStep (hCut0 (F := z03_L0 Kv) (G := fun up_3 p_4 r_5 e_6=>z03_k0d up_3 p_4 r_5 e_6 (kk [tB] Kv))) <| hEnd)
end Go.Proofs.YtmkjcheafdionaaGreat
