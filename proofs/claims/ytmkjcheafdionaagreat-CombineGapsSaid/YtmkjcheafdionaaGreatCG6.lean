/- The bodies' formulas, by program. -/
import Derived.Test.YtmkjcheafdionaaGreatProg
import Derived.KernelRfl
import Derived.Test.YtmkjcheafdionaaGreatPwY
import Derived.Test.YtmkjcheafdionaaGreatCG0
import Derived.Test.YtmkjcheafdionaaGreatCG1
import Derived.Test.YtmkjcheafdionaaGreatCG2
import Derived.Test.YtmkjcheafdionaaGreatCG3
import Derived.Test.YtmkjcheafdionaaGreatCG4
import Derived.Test.YtmkjcheafdionaaGreatCG5
set_option maxRecDepth 20000
namespace Go.Proofs.YtmkjcheafdionaaGreat
open Go Pw
def z0x_k0d (t_6 p_7:Addr) (K:Pw.T6) (w:World):Prop :=
 ∃ x10:Sl, w.cell? p_7=some (Value.slice x10.p x10.l x10.c)/\∃ x11:Sl, w.cell? (p_7.add 1)=some (Value.slice x11.p x11.l x11.c)/\∃ x12:Sl, w.cell? (p_7.add 2)=some (Value.slice x12.p x12.l x12.c)/\∃ x13:Int, w.cell? (p_7.add 3)=some (Value.int .i64 x13)/\∃ x14:Int, w.cell? (p_7.add 4)=some (Value.int .i64 x14)/\stN w t_6 [(Value.slice x10.p x10.l x10.c), (Value.slice x11.p x11.l x11.c), (Value.slice x12.p x12.l x12.c), (Value.int .i64 x13), (Value.int .i64 x14)] fun w15=>∃ x16:Sl, w15.cell? t_6=some (Value.slice x16.p x16.l x16.c)/\∃ x17:Sl, w15.cell? (t_6.add 1)=some (Value.slice x17.p x17.l x17.c)/\∃ x18:Sl, w15.cell? (t_6.add 2)=some (Value.slice x18.p x18.l x18.c)/\∃ x19:Int, w15.cell? (t_6.add 3)=some (Value.int .i64 x19)/\∃ x20:Int, w15.cell? (t_6.add 4)=some (Value.int .i64 x20)/\K x16 x17 x18 x19 x20 w15
structure z0x_k0 (t_6 p_7:Addr) (K:Pw.T6) (w:World):Prop where
 out:z0x_k0d t_6 p_7 K w
def z0x_sd (budget_0 most_1 off_2:Int) (K:Pw.T6) (w:World):Prop :=
 let w1 := w.alloc (Obj.cells #[(Value.slice none 0 0), (Value.slice none 0 0), (Value.slice none 0 0), (Value.int .i64 0), (Value.int .i64 0)] 27)
 let w2 := w1.alloc (Obj.cells #[(Value.int .i64 1), (Value.int .i64 2)] 3)
 let w3 := w2.alloc (Obj.cells #[(Value.slice none 0 0), (Value.slice none 0 0), (Value.slice none 0 0), (Value.int .i64 0), (Value.int .i64 0)] 27)
 stN w3 (Addr.mk w2.heap.size 0 none) [(Value.slice (some (Addr.mk w1.heap.size 0 none)) 2 2), (Value.slice none 0 0), (Value.slice none 0 0), (Value.int .i64 most_1), (Value.int .i64 budget_0)] fun w4=>let w5 := w4.alloc (Obj.cells #[(Value.int .i64 1), (Value.int .i64 5), (Value.int .i64 10), (Value.int .i64 8), (Value.int .i64 1), (Value.int .i64 6), (Value.int .i64 7), (Value.int .i64 6), (Value.int .i64 2), (Value.int .i64 5), (Value.int .i64 9), (Value.int .i64 7)] 65)
 wrOk w5 (Addr.mk w2.heap.size 1 none)/\
 (let w6 := w5.setCell (Addr.mk w2.heap.size 1 none) (Value.slice (some (Addr.mk w4.heap.size 0 none)) 3 3)
 cnd (decide (off_2 > (0:Int)))
 (let w7 := w6.alloc (Obj.cells #[(Value.int .i64 1), (Value.int .i64 2)] 3)
 let w8 := w7.alloc (Obj.cells #[(Value.int .i64 5), (Value.slice (some (Addr.mk w6.heap.size 0 none)) 2 2), (Value.int .i64 off_2)] 67)
 wrOk w8 (Addr.mk w2.heap.size 2 none)/\
 (let w9 := w8.setCell (Addr.mk w2.heap.size 2 none) (Value.slice (some (Addr.mk w7.heap.size 0 none)) 1 1)
 z0x_k0 (Addr.mk w.heap.size 0 none) (Addr.mk w2.heap.size 0 none) K w9))
 (z0x_k0 (Addr.mk w.heap.size 0 none) (Addr.mk w2.heap.size 0 none) K w6))
structure z0x_sh (budget_0 most_1 off_2:Int) (K:Pw.T6) (w:World):Prop where
 out:z0x_sd budget_0 most_1 off_2 K w
def z0x_L0 (Kv:VW):Cur [tQ, tQ] WP := fun t_6 p_7=>z0x_k0 t_6 p_7 (kk [.g 5, tL, tL, tL, tI, tI] Kv)
noncomputable def z0x_S:Pw.Spec := fun vs w Kv=>un [tI, tI, tI] (fun budget_0 most_1 off_2=>z0x_sh budget_0 most_1 off_2 (kk [.g 5, tL, tL, tL, tI, tI] Kv)) nF vs w
def z0x_A (Kv:VW):A := (qr 1 (qr 6 (qr 6 (qs (qr 2 (qc (qe 6) ql)) (A.cut [6, 7] (uR0 [tQ, tQ] (z0x_L0 Kv)) (qr 2 ql))))))
theorem z0x_ok:Sound Tryz.prog 26 z0x_S := okS (x := z0x_A) (fun Kv budget_0 most_1 off_2=>z0x_sd budget_0 most_1 off_2 (kk [.g 5, tL, tL, tL, tI, tI] Kv)) progMixed (Γ := []) trivial Tryz.call26 Tryz.func26 (fun Kv=>hStep (hCut0 (F := z0x_L0 Kv) (G := fun t_6 p_7=>z0x_k0d t_6 p_7 (kk [.g 5, tL, tL, tL, tI, tI] Kv))) <| hEnd)
def z1k_sd (p_0_0 p_0_1 p_0_2:Sl) (p_0_3 p_0_4:Int) (want_1:Sl) (points_2:Int) (K:Pw.T0) (w:World):Prop :=
 let w1 := w.alloc (Obj.cells #[(Value.slice p_0_0.p p_0_0.l p_0_0.c), (Value.slice p_0_1.p p_0_1.l p_0_1.c), (Value.slice p_0_2.p p_0_2.l p_0_2.c), (Value.int .i64 p_0_3), (Value.int .i64 p_0_4)] 27)
 ∃ x2:Sl, w1.cell? (Addr.mk w.heap.size 0 none)=some (Value.slice x2.p x2.l x2.c)/\∃ x3:Sl, w1.cell? (Addr.mk w.heap.size 1 none)=some (Value.slice x3.p x3.l x3.c)/\∃ x4:Sl, w1.cell? (Addr.mk w.heap.size 2 none)=some (Value.slice x4.p x4.l x4.c)/\∃ x5:Int, w1.cell? (Addr.mk w.heap.size 3 none)=some (Value.int .i64 x5)/\∃ x6:Int, w1.cell? (Addr.mk w.heap.size 4 none)=some (Value.int .i64 x6)/\z33_sh x2 x3 x4 x5 x6 (1000:Int) (fun r8_0 r8_1 r8_2 r8_3 r9 w7=>let w10 := w7.alloc (Obj.cells #[(Value.slice none 0 0), (Value.int .i64 0), (Value.int .i64 0), (Value.slice none 0 0)] 31)
 stN w10 (Addr.mk w7.heap.size 0 none) [(Value.slice r8_0.p r8_0.l r8_0.c), (Value.int .i64 r8_1), (Value.int .i64 r8_2), (Value.slice r8_3.p r8_3.l r8_3.c)] fun w11=>cnd (r9 == (0:Int))
 (∃ x12:Sl, w11.cell? (Addr.mk w7.heap.size 0 none)=some (Value.slice x12.p x12.l x12.c)/\z23_sh x12 want_1 (fun r14 w13=>cnd r14
 (∃ x15:Int, w13.cell? (Addr.mk w7.heap.size 1 none)=some (Value.int .i64 x15)/\cnd (x15 == points_2)
 (∃ x16:Int, w13.cell? (Addr.mk w7.heap.size 2 none)=some (Value.int .i64 x16)/\K (x16 == points_2) w13)
 (K false w13))
 (K false w13)) w11)
 (K false w11)) w1
structure z1k_sh (p_0_0 p_0_1 p_0_2:Sl) (p_0_3 p_0_4:Int) (want_1:Sl) (points_2:Int) (K:Pw.T0) (w:World):Prop where
 out:z1k_sd p_0_0 p_0_1 p_0_2 p_0_3 p_0_4 want_1 points_2 K w
noncomputable def z1k_S:Pw.Spec := fun vs w Kv=>un [.g 5, tL, tL, tL, tI, tI, tL, tI] (fun p_0_0 p_0_1 p_0_2 p_0_3 p_0_4 want_1 points_2=>z1k_sh p_0_0 p_0_1 p_0_2 p_0_3 p_0_4 want_1 points_2 (kk [tB] Kv)) nF vs w
def z1k_A (_:VW):A := (qr 2 (qr 8 (qs (A.reg (qn 3 (RA.spl 16 (qn 6 (RA.spl 22 (qn 6 (RA.spl 28 (qn 6 RA.done) (qk 4 (qn 2 RA.done)))) (qk 4 (qn 2 (qk 4 (qn 2 RA.done)))))) (qk 4 (qn 2 (qk 4 (qn 2 (qk 4 (qn 2 RA.done))))))))) ql)))
theorem z1k_ok:Sound Tryz.prog 25 z1k_S := okS (x := z1k_A) (fun Kv p_0_0 p_0_1 p_0_2 p_0_3 p_0_4 want_1 points_2=>z1k_sd p_0_0 p_0_1 p_0_2 p_0_3 p_0_4 want_1 points_2 (kk [tB] Kv)) progMixed (Γ := [(11, z33_S), (15, z23_S)]) ⟨.inl z33_ok, .inl z23_ok, trivial⟩ Tryz.call25 Tryz.func25 (fun _=>hEnd)
def z17_k1d (one_1 two_2:Bool) (K:Pw.T0) (w:World):Prop :=
 z0x_sh (18:Int) (0:Int) (1:Int) (fun r27_0 r27_1 r27_2 r27_3 r27_4 w26=>let w28 := w26.alloc (Obj.cells #[(Value.int .i64 0), (Value.int .i64 2)] 3)
 z3a_sh r27_0 r27_1 r27_2 r27_3 r27_4 (Sl.mk (some (Addr.mk w26.heap.size 0 none)) 2 2) (fun r30 r31 w29=>cnd one_1
 (cnd two_2
 (cnd (r30 == (18:Int))
 (K r31 w29)
 (K false w29))
 (K false w29))
 (K false w29)) w28) w
structure z17_k1 (one_1 two_2:Bool) (K:Pw.T0) (w:World):Prop where
 out:z17_k1d one_1 two_2 K w
def z17_k0d (one_1:Bool) (K:Pw.T0) (w:World):Prop :=
 z0x_sh (19:Int) (1:Int) (0:Int) (fun r17_0 r17_1 r17_2 r17_3 r17_4 w16=>let w18 := w16.alloc (Obj.cells #[(Value.int .i64 1), (Value.int .i64 2)] 3)
 z1k_sh r17_0 r17_1 r17_2 r17_3 r17_4 (Sl.mk (some (Addr.mk w16.heap.size 0 none)) 2 2) (13:Int) (fun r20 w19=>cnd r20
 (z0x_sh (6:Int) (0:Int) (0:Int) (fun r22_0 r22_1 r22_2 r22_3 r22_4 w21=>let w23 := w21.alloc (Obj.cells #[(Value.int .i64 (-1)), (Value.int .i64 (-1))] 3)
 z1k_sh r22_0 r22_1 r22_2 r22_3 r22_4 (Sl.mk (some (Addr.mk w21.heap.size 0 none)) 2 2) (0:Int) (fun r25 w24=>z17_k1 one_1 r25 K w24) w23) w19)
 (z17_k1 one_1 false K w19)) w18) w
structure z17_k0 (one_1:Bool) (K:Pw.T0) (w:World):Prop where
 out:z17_k0d one_1 K w
def z17_sd (K:Pw.T0) (w:World):Prop :=
 z0x_sh (19:Int) (0:Int) (0:Int) (fun r2_0 r2_1 r2_2 r2_3 r2_4 w1=>let w3 := w1.alloc (Obj.cells #[(Value.int .i64 0), (Value.int .i64 2)] 3)
 z1k_sh r2_0 r2_1 r2_2 r2_3 r2_4 (Sl.mk (some (Addr.mk w1.heap.size 0 none)) 2 2) (15:Int) (fun r5 w4=>cnd r5
 (z0x_sh (18:Int) (0:Int) (0:Int) (fun r7_0 r7_1 r7_2 r7_3 r7_4 w6=>let w8 := w6.alloc (Obj.cells #[(Value.int .i64 1), (Value.int .i64 2)] 3)
 z1k_sh r7_0 r7_1 r7_2 r7_3 r7_4 (Sl.mk (some (Addr.mk w6.heap.size 0 none)) 2 2) (13:Int) (fun r10 w9=>cnd r10
 (z0x_sh (18:Int) (0:Int) (1:Int) (fun r12_0 r12_1 r12_2 r12_3 r12_4 w11=>let w13 := w11.alloc (Obj.cells #[(Value.int .i64 0), (Value.int .i64 2)] 3)
 z1k_sh r12_0 r12_1 r12_2 r12_3 r12_4 (Sl.mk (some (Addr.mk w11.heap.size 0 none)) 2 2) (15:Int) (fun r15 w14=>z17_k0 r15 K w14) w13) w9)
 (z17_k0 false K w9)) w8) w4)
 (z17_k0 false K w4)) w3) w
structure z17_sh (K:Pw.T0) (w:World):Prop where
 out:z17_sd K w
def z17_L0 (Kv:VW):Cur [tB] WP := fun one_1=>z17_k0 one_1 (kk [tB] Kv)
def z17_L1 (Kv:VW):Cur [tB, tB] WP := fun one_1 two_2=>z17_k1 one_1 two_2 (kk [tB] Kv)
noncomputable def z17_S:Pw.Spec := fun vs w Kv=>un [] (z17_sh (kk [tB] Kv)) nF vs w
def z17_A (Kv:VW):A := (qr 1 (qs (A.reg (qn 4 (RA.spl 8 (qn 5 (RA.spl 13 (qn 5 RA.done) (qk 3 (qn 2 RA.done)))) (qk 3 (qn 2 (qk 3 (qn 2 RA.done))))))) (A.cut [1] (uR0 [tB] (z17_L0 Kv)) (qs (A.reg (qn 4 (RA.spl 21 (qn 5 RA.done) (qk 3 (qn 2 RA.done))))) (A.cut [1, 2] (uR0 [tB, tB] (z17_L1 Kv)) (qr 8 (qs (A.reg (qn 2 (RA.spl 33 (qn 3 (RA.spl 36 (qn 4 (RA.spl 40 (qn 3 RA.done) (qk 1 (qn 2 RA.done)))) (qk 2 (qn 2 (qk 1 (qn 2 RA.done)))))) (qk 1 (qn 2 (qk 2 (qn 2 (qk 1 (qn 2 RA.done))))))))) ql)))))))
theorem z17_ok:Sound Tryz.prog 9 z17_S := okS (x := z17_A) (fun Kv=>z17_sd (kk [tB] Kv)) progMixed (Γ := [(22, z3a_S), (25, z1k_S), (26, z0x_S)]) ⟨.inl z3a_ok, .inl z1k_ok, .inl z0x_ok, trivial⟩ Tryz.call9 Tryz.func9 (fun Kv=>hStep (hCut0 (F := z17_L0 Kv) (G := fun one_1=>z17_k0d one_1 (kk [tB] Kv))) <| hStep (hCut0 (F := z17_L1 Kv) (G := fun one_1 two_2=>z17_k1d one_1 two_2 (kk [tB] Kv))) <| hEnd)
def z08_sd (l_0:Sl) (work_1:Int) (K:Pw.T0) (w:World):Prop :=
 z17_sh (fun r2 w1=>z24_sh l_0 (fun r4_0 r4_1 r4_2 r4_3 r4_4 w3=>let w5 := w3.alloc (Obj.cells #[(Value.slice none 0 0), (Value.slice none 0 0), (Value.slice none 0 0), (Value.int .i64 0), (Value.int .i64 0)] 27)
 stN w5 (Addr.mk w3.heap.size 0 none) [(Value.slice r4_0.p r4_0.l r4_0.c), (Value.slice r4_1.p r4_1.l r4_1.c), (Value.slice r4_2.p r4_2.l r4_2.c), (Value.int .i64 r4_3), (Value.int .i64 r4_4)] fun w6=>∃ x7:Sl, w6.cell? (Addr.mk w3.heap.size 0 none)=some (Value.slice x7.p x7.l x7.c)/\∃ x8:Sl, w6.cell? (Addr.mk w3.heap.size 1 none)=some (Value.slice x8.p x8.l x8.c)/\∃ x9:Sl, w6.cell? (Addr.mk w3.heap.size 2 none)=some (Value.slice x9.p x9.l x9.c)/\∃ x10:Int, w6.cell? (Addr.mk w3.heap.size 3 none)=some (Value.int .i64 x10)/\∃ x11:Int, w6.cell? (Addr.mk w3.heap.size 4 none)=some (Value.int .i64 x11)/\(40:Int) ≠ 0/\inR .i64 (Int.tmod work_1 (40:Int))/\z33_sh x7 x8 x9 x10 x11 (Int.tmod work_1 (40:Int)) (fun r13_0 r13_1 r13_2 r13_3 r14 w12=>let w15 := w12.alloc (Obj.cells #[(Value.slice none 0 0), (Value.int .i64 0), (Value.int .i64 0), (Value.slice none 0 0)] 31)
 stN w15 (Addr.mk w12.heap.size 0 none) [(Value.slice r13_0.p r13_0.l r13_0.c), (Value.int .i64 r13_1), (Value.int .i64 r13_2), (Value.slice r13_3.p r13_3.l r13_3.c)] fun w16=>∃ x17:Sl, w16.cell? (Addr.mk w3.heap.size 0 none)=some (Value.slice x17.p x17.l x17.c)/\∃ x18:Sl, w16.cell? (Addr.mk w3.heap.size 1 none)=some (Value.slice x18.p x18.l x18.c)/\∃ x19:Sl, w16.cell? (Addr.mk w3.heap.size 2 none)=some (Value.slice x19.p x19.l x19.c)/\∃ x20:Int, w16.cell? (Addr.mk w3.heap.size 3 none)=some (Value.int .i64 x20)/\∃ x21:Int, w16.cell? (Addr.mk w3.heap.size 4 none)=some (Value.int .i64 x21)/\z22_sh x17 x18 x19 x20 x21 (fun r23 w22=>cnd (r14 == (0:Int))
 (cnd r2
 (∃ x24:Sl, w22.cell? (Addr.mk w12.heap.size 0 none)=some (Value.slice x24.p x24.l x24.c)/\z23_sh x24 r23 (fun r26 w25=>cnd r26
 (∃ x27:Sl, w25.cell? (Addr.mk w3.heap.size 0 none)=some (Value.slice x27.p x27.l x27.c)/\∃ x28:Sl, w25.cell? (Addr.mk w3.heap.size 1 none)=some (Value.slice x28.p x28.l x28.c)/\∃ x29:Sl, w25.cell? (Addr.mk w3.heap.size 2 none)=some (Value.slice x29.p x29.l x29.c)/\∃ x30:Int, w25.cell? (Addr.mk w3.heap.size 3 none)=some (Value.int .i64 x30)/\∃ x31:Int, w25.cell? (Addr.mk w3.heap.size 4 none)=some (Value.int .i64 x31)/\∃ x32:Sl, w25.cell? (Addr.mk w12.heap.size 0 none)=some (Value.slice x32.p x32.l x32.c)/\∃ x33:Int, w25.cell? (Addr.mk w12.heap.size 1 none)=some (Value.int .i64 x33)/\∃ x34:Int, w25.cell? (Addr.mk w12.heap.size 2 none)=some (Value.int .i64 x34)/\∃ x35:Sl, w25.cell? (Addr.mk w12.heap.size 3 none)=some (Value.slice x35.p x35.l x35.c)/\z1s_sh x27 x28 x29 x30 x31 x32 x33 x34 x35 (fun r37 w36=>cnd r37
 (∃ x38:Int, w36.cell? (Addr.mk w12.heap.size 2 none)=some (Value.int .i64 x38)/\∃ x39:Int, w36.cell? (Addr.mk w12.heap.size 1 none)=some (Value.int .i64 x39)/\K (x38 == x39) w36)
 (K false w36)) w25)
 (K false w25)) w22)
 (K false w22))
 (∃ x40:Sl, w22.cell? (Addr.mk w3.heap.size 0 none)=some (Value.slice x40.p x40.l x40.c)/\∃ x41:Sl, w22.cell? (Addr.mk w3.heap.size 1 none)=some (Value.slice x41.p x41.l x41.c)/\∃ x42:Sl, w22.cell? (Addr.mk w3.heap.size 2 none)=some (Value.slice x42.p x42.l x42.c)/\∃ x43:Int, w22.cell? (Addr.mk w3.heap.size 3 none)=some (Value.int .i64 x43)/\∃ x44:Int, w22.cell? (Addr.mk w3.heap.size 4 none)=some (Value.int .i64 x44)/\∃ x45:Sl, w22.cell? (Addr.mk w12.heap.size 0 none)=some (Value.slice x45.p x45.l x45.c)/\z1b_sh x40 x41 x42 x43 x44 x45 (fun r47 w46=>let w48 := w46.drew
 ∃ S49:World->Prop, S49 w48/\cnd r2
 (cnd (r14 == (42:Int))
 (∃ x50:Sl, (∀ w':World, S49 w'->w'.cell? (Addr.mk w3.heap.size 0 none)=some (Value.slice x50.p x50.l x50.c))/\∃ x51:Sl, (∀ w':World, S49 w'->w'.cell? (Addr.mk w3.heap.size 1 none)=some (Value.slice x51.p x51.l x51.c))/\∃ x52:Sl, (∀ w':World, S49 w'->w'.cell? (Addr.mk w3.heap.size 2 none)=some (Value.slice x52.p x52.l x52.c))/\∃ x53:Int, (∀ w':World, S49 w'->w'.cell? (Addr.mk w3.heap.size 3 none)=some (Value.int .i64 x53))/\∃ x54:Int, (∀ w':World, S49 w'->w'.cell? (Addr.mk w3.heap.size 4 none)=some (Value.int .i64 x54))/\∃ x55:Sl, (∀ w':World, S49 w'->w'.cell? (Addr.mk w12.heap.size 0 none)=some (Value.slice x55.p x55.l x55.c))/\z0h_sh x50 x51 x52 x53 x54 x55 (fun r57 w56=>S49 w56/\cnd r57
 (∃ x58:Int, (∀ w':World, S49 w'->w'.cell? (Addr.mk w12.heap.size 1 none)=some (Value.int .i64 x58))/\cnd (x58 == r47)
 (∃ x59:Int, (∀ w':World, S49 w'->w'.cell? (Addr.mk w12.heap.size 2 none)=some (Value.int .i64 x59))/\∃ x60:Sl, (∀ w':World, S49 w'->w'.cell? (Addr.mk w3.heap.size 0 none)=some (Value.slice x60.p x60.l x60.c))/\∃ x61:Sl, (∀ w':World, S49 w'->w'.cell? (Addr.mk w3.heap.size 1 none)=some (Value.slice x61.p x61.l x61.c))/\∃ x62:Sl, (∀ w':World, S49 w'->w'.cell? (Addr.mk w3.heap.size 2 none)=some (Value.slice x62.p x62.l x62.c))/\∃ x63:Int, (∀ w':World, S49 w'->w'.cell? (Addr.mk w3.heap.size 3 none)=some (Value.int .i64 x63))/\∃ x64:Int, (∀ w':World, S49 w'->w'.cell? (Addr.mk w3.heap.size 4 none)=some (Value.int .i64 x64))/\z1b_sh x60 x61 x62 x63 x64 r23 (fun r66 w65=>S49 w65/\cnd (decide (x59 >= r66))
 (∃ x67:Sl, (∀ w':World, S49 w'->w'.cell? (Addr.mk w12.heap.size 3 none)=some (Value.slice x67.p x67.l x67.c))/\K ((x67.l:Int) == (0:Int)) w65)
 (K false w65)) w56)
 (K false w56))
 (K false w56)) w48)
 (K false w48))
 (K false w48)) w22)) w16) w6) w1) w
structure z08_sh (l_0:Sl) (work_1:Int) (K:Pw.T0) (w:World):Prop where
 out:z08_sd l_0 work_1 K w
noncomputable def z08_S:Pw.Spec := fun vs w Kv=>un [tL, .f (.i .u8)] (fun l_0 work_1=>z08_sh l_0 work_1 (kk [tB] Kv)) nF vs w
def z08_A (_:VW):A := (qr 1 (qr 2 (qr 4 (qr 11 (qr 3 (qs (qr 2 (qc (qs (A.reg (qn 2 (RA.spl 27 (qn 6 (RA.spl 33 (qn 5 (RA.spl 38 (qn 7 RA.done) (qk 5 (qn 2 RA.done)))) (qk 3 (qn 2 (qk 5 (qn 2 RA.done)))))) (qk 4 (qn 2 (qk 3 (qn 2 (qk 5 (qn 2 RA.done))))))))) ql) ql)) (qr 5 (qs (A.drw (dp [0, 1] (DA.spl 50 (dp [2, 3, 4, 5] (DA.spl 54 (dp [6, 7, 8] (DA.eff 9 (dp [10, 11] (DA.spl 60 (dp [12, 13, 14, 15, 16, 17] (DA.spl 66 (dp [18, 19, 20, 21] (DA.eff 22 (dp [23, 24, 25] (DA.spl 74 (dp [26, 27, 28, 29, 30, 31] DA.done) (DA.skp 26 (DA.skp 27 (DA.skp 28 (DA.skp 29 (dp [30, 31] DA.done))))))))) (DA.skp 18 (DA.skp 19 (DA.skp 20 (DA.skp 21 (DA.skp 22 (DA.skp 23 (dp [24, 25] (DA.skp 26 (DA.skp 27 (DA.skp 28 (DA.skp 29 (dp [30, 31] DA.done)))))))))))))) (DA.skp 12 (DA.skp 13 (DA.skp 14 (DA.skp 15 (dp [16, 17] (DA.skp 18 (DA.skp 19 (DA.skp 20 (DA.skp 21 (DA.skp 22 (DA.skp 23 (dp [24, 25] (DA.skp 26 (DA.skp 27 (DA.skp 28 (DA.skp 29 (dp [30, 31] DA.done))))))))))))))))))))) (DA.skp 6 (DA.skp 7 (DA.skp 8 (DA.skp 9 (dp [10, 11] (DA.skp 12 (DA.skp 13 (DA.skp 14 (DA.skp 15 (dp [16, 17] (DA.skp 18 (DA.skp 19 (DA.skp 20 (DA.skp 21 (DA.skp 22 (DA.skp 23 (dp [24, 25] (DA.skp 26 (DA.skp 27 (DA.skp 28 (DA.skp 29 (dp [30, 31] DA.done)))))))))))))))))))))))) (DA.skp 2 (DA.skp 3 (dp [4, 5] (DA.skp 6 (DA.skp 7 (DA.skp 8 (DA.skp 9 (dp [10, 11] (DA.skp 12 (DA.skp 13 (DA.skp 14 (DA.skp 15 (dp [16, 17] (DA.skp 18 (DA.skp 19 (DA.skp 20 (DA.skp 21 (DA.skp 22 (DA.skp 23 (dp [24, 25] (DA.skp 26 (DA.skp 27 (DA.skp 28 (DA.skp 29 (dp [30, 31] DA.done)))))))))))))))))))))))))))) ql))))))))
theorem z08_ok:Sound Tryz.prog 5 z08_S := okS (x := z08_A) (fun Kv l_0 work_1=>z08_sd l_0 work_1 (kk [tB] Kv)) progMixed (Γ := [(9, z17_S), (10, z24_S), (11, z33_S), (13, z22_S), (14, z1b_S), (15, z23_S), (16, z1s_S), (17, z0h_S)]) ⟨.inl z17_ok, .inl z24_ok, .inl z33_ok, .inl z22_ok, .inl z1b_ok, .inl z23_ok, .inl z1s_ok, .inl z0h_ok, trivial⟩ Tryz.call5 Tryz.func5 (fun _=>hEnd)
end Go.Proofs.YtmkjcheafdionaaGreat
