/- The bodies' formulas, by program. -/
import Derived.Test.YtmkjcheafdionaaGreatProg
import Derived.KernelRfl
import Derived.Test.YtmkjcheafdionaaGreatPwY
import Derived.Test.YtmkjcheafdionaaGreatCG0
import Derived.Test.YtmkjcheafdionaaGreatCG1
import Derived.Test.YtmkjcheafdionaaGreatCG2
import Derived.Test.YtmkjcheafdionaaGreatCG3
import Derived.Test.YtmkjcheafdionaaGreatCG4
import Derived.Test.YtmkjcheafdionaaGreatCG5
set_option maxRecDepth 20000
namespace Go.Proofs.YtmkjcheafdionaaGreat
open Go Pw
def z0x_k0d (t_6 p_7:Addr) (K:Pw.T6) (w:World):Prop :=
 ∃ x10:Sl, w.cell? p_7=some (Value.slice x10.p x10.l x10.c)/\∃ x11:Sl, w.cell? (p_7.add 1)=some (Value.slice x11.p x11.l x11.c)/\∃ x12:Sl, w.cell? (p_7.add 2)=some (Value.slice x12.p x12.l x12.c)/\∃ x13:Int, w.cell? (p_7.add 3)=some (Value.int .i64 x13)/\∃ x14:Int, w.cell? (p_7.add 4)=some (Value.int .i64 x14)/\stN w t_6 [(Value.slice x10.p x10.l x10.c), (Value.slice x11.p x11.l x11.c), (Value.slice x12.p x12.l x12.c), (Value.int .i64 x13), (Value.int .i64 x14)] fun w15=>∃ x16:Sl, w15.cell? t_6=some (Value.slice x16.p x16.l x16.c)/\∃ x17:Sl, w15.cell? (t_6.add 1)=some (Value.slice x17.p x17.l x17.c)/\∃ x18:Sl, w15.cell? (t_6.add 2)=some (Value.slice x18.p x18.l x18.c)/\∃ x19:Int, w15.cell? (t_6.add 3)=some (Value.int .i64 x19)/\∃ x20:Int, w15.cell? (t_6.add 4)=some (Value.int .i64 x20)/\K x16 x17 x18 x19 x20 w15
structure z0x_k0 (t_6 p_7:Addr) (K:Pw.T6) (w:World):Prop where
 out:z0x_k0d t_6 p_7 K w
def z0x_sd (budget_0 most_1 off_2:Int) (K:Pw.T6) (w:World):Prop :=
 let w1 := w.alloc (Obj.cells #[(Value.slice none 0 0), (Value.slice none 0 0), (Value.slice none 0 0), (Value.int .i64 0), (Value.int .i64 0)] 27)
 let w2 := w1.alloc (Obj.cells #[(Value.int .i64 1), (Value.int .i64 2)] 3)
 let w3 := w2.alloc (Obj.cells #[(Value.slice none 0 0), (Value.slice none 0 0), (Value.slice none 0 0), (Value.int .i64 0), (Value.int .i64 0)] 27)
 stN w3 (Addr.mk w2.heap.size 0 none) [(Value.slice (some (Addr.mk w1.heap.size 0 none)) 2 2), (Value.slice none 0 0), (Value.slice none 0 0), (Value.int .i64 most_1), (Value.int .i64 budget_0)] fun w4=>let w5 := w4.alloc (Obj.cells #[(Value.int .i64 1), (Value.int .i64 5), (Value.int .i64 10), (Value.int .i64 8), (Value.int .i64 1), (Value.int .i64 6), (Value.int .i64 7), (Value.int .i64 6), (Value.int .i64 2), (Value.int .i64 5), (Value.int .i64 9), (Value.int .i64 7)] 65)
 wrOk w5 (Addr.mk w2.heap.size 1 none)/\
 (let w6 := w5.setCell (Addr.mk w2.heap.size 1 none) (Value.slice (some (Addr.mk w4.heap.size 0 none)) 3 3)
 cnd (decide (off_2 > (0:Int)))
 (let w7 := w6.alloc (Obj.cells #[(Value.int .i64 1), (Value.int .i64 2)] 3)
 let w8 := w7.alloc (Obj.cells #[(Value.int .i64 5), (Value.slice (some (Addr.mk w6.heap.size 0 none)) 2 2), (Value.int .i64 off_2)] 67)
 wrOk w8 (Addr.mk w2.heap.size 2 none)/\
 (let w9 := w8.setCell (Addr.mk w2.heap.size 2 none) (Value.slice (some (Addr.mk w7.heap.size 0 none)) 1 1)
 z0x_k0 (Addr.mk w.heap.size 0 none) (Addr.mk w2.heap.size 0 none) K w9))
 (z0x_k0 (Addr.mk w.heap.size 0 none) (Addr.mk w2.heap.size 0 none) K w6))
structure z0x_sh (budget_0 most_1 off_2:Int) (K:Pw.T6) (w:World):Prop where
 out:z0x_sd budget_0 most_1 off_2 K w
def z0x_L0 (Kv:VW):Cur [tQ, tQ] WP := fun t_6 p_7=>z0x_k0 t_6 p_7 (kk [.g 5, tL, tL, tL, tI, tI] Kv)
noncomputable def z0x_S:Pw.Spec := fun vs w Kv=>un [tI, tI, tI] (fun budget_0 most_1 off_2=>z0x_sh budget_0 most_1 off_2 (kk [.g 5, tL, tL, tL, tI, tI] Kv)) nF vs w
def z0x_A (Kv:VW):A := (qr 1 (qr 6 (qr 6 (qs (qr 2 (qc (qe 6) ql)) (A.cut [6, 7] (uR0 [tQ, tQ] (z0x_L0 Kv)) (qr 2 ql))))))
theorem z0x_ok:Sound Tryz.prog 26 z0x_S := okS (x := z0x_A) (fun Kv budget_0 most_1 off_2=>z0x_sd budget_0 most_1 off_2 (kk [.g 5, tL, tL, tL, tI, tI] Kv)) progMixed (Γ := []) trivial Tryz.call26 Tryz.func26 (fun Kv=>hStep (hCut0 (F := z0x_L0 Kv) (G := fun t_6 p_7=>z0x_k0d t_6 p_7 (kk [.g 5, tL, tL, tL, tI, tI] Kv))) <| hEnd)
def z1k_sd (p_0_0 p_0_1 p_0_2:Sl) (p_0_3 p_0_4:Int) (want_1:Sl) (points_2:Int) (K:Pw.T0) (w:World):Prop :=
 let w1 := w.alloc (Obj.cells #[(Value.slice p_0_0.p p_0_0.l p_0_0.c), (Value.slice p_0_1.p p_0_1.l p_0_1.c), (Value.slice p_0_2.p p_0_2.l p_0_2.c), (Value.int .i64 p_0_3), (Value.int .i64 p_0_4)] 27)
 ∃ x2:Sl, w1.cell? (Addr.mk w.heap.size 0 none)=some (Value.slice x2.p x2.l x2.c)/\∃ x3:Sl, w1.cell? (Addr.mk w.heap.size 1 none)=some (Value.slice x3.p x3.l x3.c)/\∃ x4:Sl, w1.cell? (Addr.mk w.heap.size 2 none)=some (Value.slice x4.p x4.l x4.c)/\∃ x5:Int, w1.cell? (Addr.mk w.heap.size 3 none)=some (Value.int .i64 x5)/\∃ x6:Int, w1.cell? (Addr.mk w.heap.size 4 none)=some (Value.int .i64 x6)/\z33_sh x2 x3 x4 x5 x6 (1000:Int) (fun r8_0 r8_1 r8_2 r8_3 r9 w7=>let w10 := w7.alloc (Obj.cells #[(Value.slice none 0 0), (Value.int .i64 0), (Value.int .i64 0), (Value.slice none 0 0)] 31)
 stN w10 (Addr.mk w7.heap.size 0 none) [(Value.slice r8_0.p r8_0.l r8_0.c), (Value.int .i64 r8_1), (Value.int .i64 r8_2), (Value.slice r8_3.p r8_3.l r8_3.c)] fun w11=>cnd (r9 == (0:Int))
 (∃ x12:Sl, w11.cell? (Addr.mk w7.heap.size 0 none)=some (Value.slice x12.p x12.l x12.c)/\z23_sh x12 want_1 (fun r14 w13=>cnd r14
 (∃ x15:Int, w13.cell? (Addr.mk w7.heap.size 1 none)=some (Value.int .i64 x15)/\cnd (x15 == points_2)
 (∃ x16:Int, w13.cell? (Addr.mk w7.heap.size 2 none)=some (Value.int .i64 x16)/\K (x16 == points_2) w13)
 (K false w13))
 (K false w13)) w11)
 (K false w11)) w1
structure z1k_sh (p_0_0 p_0_1 p_0_2:Sl) (p_0_3 p_0_4:Int) (want_1:Sl) (points_2:Int) (K:Pw.T0) (w:World):Prop where
 out:z1k_sd p_0_0 p_0_1 p_0_2 p_0_3 p_0_4 want_1 points_2 K w
noncomputable def z1k_S:Pw.Spec := fun vs w Kv=>un [.g 5, tL, tL, tL, tI, tI, tL, tI] (fun p_0_0 p_0_1 p_0_2 p_0_3 p_0_4 want_1 points_2=>z1k_sh p_0_0 p_0_1 p_0_2 p_0_3 p_0_4 want_1 points_2 (kk [tB] Kv)) nF vs w
def z1k_A (_:VW):A := (qr 2 (qr 8 (qs (A.reg (qn 3 (RA.spl 16 (qn 6 (RA.spl 22 (qn 6 (RA.spl 28 (qn 6 RA.done) (qk 4 (qn 2 RA.done)))) (qk 4 (qn 2 (qk 4 (qn 2 RA.done)))))) (qk 4 (qn 2 (qk 4 (qn 2 (qk 4 (qn 2 RA.done))))))))) ql)))
theorem z1k_ok:Sound Tryz.prog 25 z1k_S := okS (x := z1k_A) (fun Kv p_0_0 p_0_1 p_0_2 p_0_3 p_0_4 want_1 points_2=>z1k_sd p_0_0 p_0_1 p_0_2 p_0_3 p_0_4 want_1 points_2 (kk [tB] Kv)) progMixed (Γ := [(11, z33_S), (15, z23_S)]) ⟨.inl z33_ok, .inl z23_ok, trivial⟩ Tryz.call25 Tryz.func25 (fun _=>hEnd)
def z17_k1d (one_1 two_2:Bool) (K:Pw.T0) (w:World):Prop :=
 z0x_sh (18:Int) (0:Int) (1:Int) (fun r27_0 r27_1 r27_2 r27_3 r27_4 w26=>let w28 := w26.alloc (Obj.cells #[(Value.int .i64 0), (Value.int .i64 2)] 3)
 z3a_sh r27_0 r27_1 r27_2 r27_3 r27_4 (Sl.mk (some (Addr.mk w26.heap.size 0 none)) 2 2) (fun r30 r31 w29=>cnd one_1
 (cnd two_2
 (cnd (r30 == (18:Int))
 (K r31 w29)
 (K false w29))
 (K false w29))
 (K false w29)) w28) w
structure z17_k1 (one_1 two_2:Bool) (K:Pw.T0) (w:World):Prop where
 out:z17_k1d one_1 two_2 K w
def z17_k0d (one_1:Bool) (K:Pw.T0) (w:World):Prop :=
 z0x_sh (19:Int) (1:Int) (0:Int) (fun r17_0 r17_1 r17_2 r17_3 r17_4 w16=>let w18 := w16.alloc (Obj.cells #[(Value.int .i64 1), (Value.int .i64 2)] 3)
 z1k_sh r17_0 r17_1 r17_2 r17_3 r17_4 (Sl.mk (some (Addr.mk w16.heap.size 0 none)) 2 2) (13:Int) (fun r20 w19=>cnd r20
 (z0x_sh (6:Int) (0:Int) (0:Int) (fun r22_0 r22_1 r22_2 r22_3 r22_4 w21=>let w23 := w21.alloc (Obj.cells #[(Value.int .i64 (-1)), (Value.int .i64 (-1))] 3)
 z1k_sh r22_0 r22_1 r22_2 r22_3 r22_4 (Sl.mk (some (Addr.mk w21.heap.size 0 none)) 2 2) (0:Int) (fun r25 w24=>z17_k1 one_1 r25 K w24) w23) w19)
 (z17_k1 one_1 false K w19)) w18) w
structure z17_k0 (one_1:Bool) (K:Pw.T0) (w:World):Prop where
 out:z17_k0d one_1 K w
def z17_sd (K:Pw.T0) (w:World):Prop :=
 z0x_sh (19:Int) (0:Int) (0:Int) (fun r2_0 r2_1 r2_2 r2_3 r2_4 w1=>let w3 := w1.alloc (Obj.cells #[(Value.int .i64 0), (Value.int .i64 2)] 3)
 z1k_sh r2_0 r2_1 r2_2 r2_3 r2_4 (Sl.mk (some (Addr.mk w1.heap.size 0 none)) 2 2) (15:Int) (fun r5 w4=>cnd r5
 (z0x_sh (18:Int) (0:Int) (0:Int) (fun r7_0 r7_1 r7_2 r7_3 r7_4 w6=>let w8 := w6.alloc (Obj.cells #[(Value.int .i64 1), (Value.int .i64 2)] 3)
 z1k_sh r7_0 r7_1 r7_2 r7_3 r7_4 (Sl.mk (some (Addr.mk w6.heap.size 0 none)) 2 2) (13:Int) (fun r10 w9=>cnd r10
 (z0x_sh (18:Int) (0:Int) (1:Int) (fun r12_0 r12_1 r12_2 r12_3 r12_4 w11=>let w13 := w11.alloc (Obj.cells #[(Value.int .i64 0), (Value.int .i64 2)] 3)
 z1k_sh r12_0 r12_1 r12_2 r12_3 r12_4 (Sl.mk (some (Addr.mk w11.heap.size 0 none)) 2 2) (15:Int) (fun r15 w14=>z17_k0 r15 K w14) w13) w9)
 (z17_k0 false K w9)) w8) w4)
 (z17_k0 false K w4)) w3) w
structure z17_sh (K:Pw.T0) (w:World):Prop where
 out:z17_sd K w
def z17_L0 (Kv:VW):Cur [tB] WP := fun one_1=>z17_k0 one_1 (kk [tB] Kv)
def z17_L1 (Kv:VW):Cur [tB, tB] WP := fun one_1 two_2=>z17_k1 one_1 two_2 (kk [tB] Kv)
noncomputable def z17_S:Pw.Spec := fun vs w Kv=>un [] (z17_sh (kk [tB] Kv)) nF vs w
def z17_A (Kv:VW):A := (qr 1 (qs (A.reg (qn 4 (RA.spl 8 (qn 5 (RA.spl 13 (qn 5 RA.done) (qk 3 (qn 2 RA.done)))) (qk 3 (qn 2 (qk 3 (qn 2 RA.done))))))) (A.cut [1] (uR0 [tB] (z17_L0 Kv)) (qs (A.reg (qn 4 (RA.spl 21 (qn 5 RA.done) (qk 3 (qn 2 RA.done))))) (A.cut [1, 2] (uR0 [tB, tB] (z17_L1 Kv)) (qr 8 (qs (A.reg (qn 2 (RA.spl 33 (qn 3 (RA.spl 36 (qn 4 (RA.spl 40 (qn 3 RA.done) (qk 1 (qn 2 RA.done)))) (qk 2 (qn 2 (qk 1 (qn 2 RA.done)))))) (qk 1 (qn 2 (qk 2 (qn 2 (qk 1 (qn 2 RA.done))))))))) ql)))))))
theorem z17_ok:Sound Tryz.prog 9 z17_S := okS (x := z17_A) (fun Kv=>z17_sd (kk [tB] Kv)) progMixed (Γ := [(22, z3a_S), (25, z1k_S), (26, z0x_S)]) ⟨.inl z3a_ok, .inl z1k_ok, .inl z0x_ok, trivial⟩ Tryz.call9 Tryz.func9 (fun Kv=>hStep (hCut0 (F := z17_L0 Kv) (G := fun one_1=>z17_k0d one_1 (kk [tB] Kv))) <| hStep (hCut0 (F := z17_L1 Kv) (G := fun one_1 two_2=>z17_k1d one_1 two_2 (kk [tB] Kv))) <| hEnd)
def z0d_b2 (l_0:Sl) (up_3:Bool) (p_4:Addr) (work_5:Int) (a_6:Addr) (want_8:Sl) (i_10 k_11:Int) (N2:Sl->Bool->Addr->Int->Addr->Sl->Int->Int->World->Prop) (N1:Sl->Bool->Addr->Int->Addr->Sl->Int->World->Prop) (K:Pw.T0) (w:World):Prop :=
 ∃ x33:Sl, w.cell? (a_6.add 3)=some (Value.slice x33.p x33.l x33.c)/\nz x33.p fun a34=>(0 <= i_10/\i_10 < (x33.l:Nat))/\∃ x35:Sl, w.cell? ((a34.add (i_10.toNat * 4)).add 3)=some (Value.slice x35.p x35.l x35.c)/\cnd (decide (k_11 < (x35.l:Int)))
 (∃ x36:Sl, w.cell? (a_6.add 3)=some (Value.slice x36.p x36.l x36.c)/\nz x36.p fun a37=>(0 <= i_10/\i_10 < (x36.l:Nat))/\∃ x38:Sl, w.cell? ((a37.add (i_10.toNat * 4)).add 3)=some (Value.slice x38.p x38.l x38.c)/\nz x38.p fun a39=>(0 <= k_11/\k_11 < (x38.l:Nat))/\wrOk w (a39.add (k_11.toNat * 1))/\
 (let w40 := w.setCell (a39.add (k_11.toNat * 1)) (Value.int .i64 (-9))
 inR .i64 (k_11 + (1:Int))/\N2 l_0 up_3 p_4 work_5 a_6 want_8 i_10 (k_11 + (1:Int)) w40))
 (inR .i64 (i_10 + (1:Int))/\N1 l_0 up_3 p_4 work_5 a_6 want_8 (i_10 + (1:Int)) w)
def z0d_l2d (l_0:Sl) (up_3:Bool) (p_4:Addr) (work_5:Int) (a_6:Addr) (want_8:Sl) (i_10 k_11:Int) (N1:Sl->Bool->Addr->Int->Addr->Sl->Int->World->Prop) (K:Pw.T0) (w:World):Prop :=
 ∃ (I:Int->World->Prop) (μ:Int->World->Nat), I k_11 w/\∀ (k_111:Int) (w1:World), I k_111 w1 ->
 z0d_b2 l_0 up_3 p_4 work_5 a_6 want_8 i_10 k_111 (fun l_0' up_3' p_4' work_5' a_6' want_8' i_10' k_11' w'=>((l_0'=l_0/\up_3'=up_3/\p_4'=p_4/\work_5'=work_5/\a_6'=a_6/\want_8'=want_8/\i_10'=i_10/\True)/\I k_11' w')/\μ k_11' w' < μ k_111 w1) N1 K w1
structure z0d_l2 (l_0:Sl) (up_3:Bool) (p_4:Addr) (work_5:Int) (a_6:Addr) (want_8:Sl) (i_10 k_11:Int) (N1:Sl->Bool->Addr->Int->Addr->Sl->Int->World->Prop) (K:Pw.T0) (w:World):Prop where
 out:z0d_l2d l_0 up_3 p_4 work_5 a_6 want_8 i_10 k_11 N1 K w
def z0d_b1 (l_0:Sl) (up_3:Bool) (p_4:Addr) (work_5:Int) (a_6:Addr) (want_8:Sl) (i_10:Int) (N1:Sl->Bool->Addr->Int->Addr->Sl->Int->World->Prop) (K:Pw.T0) (w:World):Prop :=
 ∃ x32:Sl, w.cell? (a_6.add 3)=some (Value.slice x32.p x32.l x32.c)/\cnd (decide (i_10 < (x32.l:Int)))
 (z0d_l2 l_0 up_3 p_4 work_5 a_6 want_8 i_10 (0:Int) N1 K w)
 (∃ x41:Sl, w.cell? p_4=some (Value.slice x41.p x41.l x41.c)/\∃ x42:Sl, w.cell? (p_4.add 1)=some (Value.slice x42.p x42.l x42.c)/\∃ x43:Sl, w.cell? (p_4.add 2)=some (Value.slice x43.p x43.l x43.c)/\∃ x44:Int, w.cell? (p_4.add 3)=some (Value.int .i64 x44)/\∃ x45:Int, w.cell? (p_4.add 4)=some (Value.int .i64 x45)/\z33_sh x41 x42 x43 x44 x45 work_5 (fun r47_0 r47_1 r47_2 r47_3 r48 w46=>let w49 := w46.alloc (Obj.cells #[(Value.slice none 0 0), (Value.int .i64 0), (Value.int .i64 0), (Value.slice none 0 0)] 31)
 stN w49 (Addr.mk w46.heap.size 0 none) [(Value.slice r47_0.p r47_0.l r47_0.c), (Value.int .i64 r47_1), (Value.int .i64 r47_2), (Value.slice r47_3.p r47_3.l r47_3.c)] fun w50=>let w51 := w50.drew
 ∃ S52:World->Prop, S52 w51/\cnd up_3
 (cnd (r48 == (0:Int))
 (∃ x53:Sl, (∀ w':World, S52 w'->w'.cell? (Addr.mk w46.heap.size 0 none)=some (Value.slice x53.p x53.l x53.c))/\z23_sh x53 want_8 (fun r55 w54=>S52 w54/\cnd r55
 (∃ x56:Sl, (∀ w':World, S52 w'->w'.cell? p_4=some (Value.slice x56.p x56.l x56.c))/\∃ x57:Sl, (∀ w':World, S52 w'->w'.cell? (p_4.add 1)=some (Value.slice x57.p x57.l x57.c))/\∃ x58:Sl, (∀ w':World, S52 w'->w'.cell? (p_4.add 2)=some (Value.slice x58.p x58.l x58.c))/\∃ x59:Int, (∀ w':World, S52 w'->w'.cell? (p_4.add 3)=some (Value.int .i64 x59))/\∃ x60:Int, (∀ w':World, S52 w'->w'.cell? (p_4.add 4)=some (Value.int .i64 x60))/\∃ x61:Sl, (∀ w':World, S52 w'->w'.cell? (Addr.mk w46.heap.size 0 none)=some (Value.slice x61.p x61.l x61.c))/\∃ x62:Int, (∀ w':World, S52 w'->w'.cell? (Addr.mk w46.heap.size 1 none)=some (Value.int .i64 x62))/\∃ x63:Int, (∀ w':World, S52 w'->w'.cell? (Addr.mk w46.heap.size 2 none)=some (Value.int .i64 x63))/\∃ x64:Sl, (∀ w':World, S52 w'->w'.cell? (Addr.mk w46.heap.size 3 none)=some (Value.slice x64.p x64.l x64.c))/\z1s_sh x56 x57 x58 x59 x60 x61 x62 x63 x64 (fun r66 w65=>S52 w65/\cnd r66
 (∃ x67:Sl, (∀ w':World, S52 w'->w'.cell? (Addr.mk w46.heap.size 0 none)=some (Value.slice x67.p x67.l x67.c))/\∃ x68:Int, (∀ w':World, S52 w'->w'.cell? (Addr.mk w46.heap.size 1 none)=some (Value.int .i64 x68))/\∃ x69:Int, (∀ w':World, S52 w'->w'.cell? (Addr.mk w46.heap.size 2 none)=some (Value.int .i64 x69))/\∃ x70:Sl, (∀ w':World, S52 w'->w'.cell? (Addr.mk w46.heap.size 3 none)=some (Value.slice x70.p x70.l x70.c))/\z24_sh l_0 (fun r72_0 r72_1 r72_2 r72_3 r72_4 w71=>S52 w71/\z1s_sh r72_0 r72_1 r72_2 r72_3 r72_4 x67 x68 x69 x70 (fun r74 w73=>S52 w73/\K r74 w73) w71) w65)
 (K false w65)) w54)
 (K false w54)) w51)
 (K false w51))
 (K false w51)) w)
def z0d_l1d (l_0:Sl) (up_3:Bool) (p_4:Addr) (work_5:Int) (a_6:Addr) (want_8:Sl) (i_10:Int) (K:Pw.T0) (w:World):Prop :=
 ∃ (I:Int->World->Prop) (μ:Int->World->Nat), I i_10 w/\∀ (i_101:Int) (w1:World), I i_101 w1 ->
 z0d_b1 l_0 up_3 p_4 work_5 a_6 want_8 i_101 (fun l_0' up_3' p_4' work_5' a_6' want_8' i_10' w'=>((l_0'=l_0/\up_3'=up_3/\p_4'=p_4/\work_5'=work_5/\a_6'=a_6/\want_8'=want_8/\True)/\I i_10' w')/\μ i_10' w' < μ i_101 w1) K w1
structure z0d_l1 (l_0:Sl) (up_3:Bool) (p_4:Addr) (work_5:Int) (a_6:Addr) (want_8:Sl) (i_10:Int) (K:Pw.T0) (w:World):Prop where
 out:z0d_l1d l_0 up_3 p_4 work_5 a_6 want_8 i_10 K w
def z0d_b0 (l_0:Sl) (up_3:Bool) (p_4:Addr) (work_5:Int) (a_6:Addr) (want_8:Sl) (i_9:Int) (N0:Sl->Bool->Addr->Int->Addr->Sl->Int->World->Prop) (K:Pw.T0) (w:World):Prop :=
 ∃ x28:Sl, w.cell? a_6=some (Value.slice x28.p x28.l x28.c)/\cnd (decide (i_9 < (x28.l:Int)))
 (∃ x29:Sl, w.cell? a_6=some (Value.slice x29.p x29.l x29.c)/\nz x29.p fun a30=>(0 <= i_9/\i_9 < (x29.l:Nat))/\wrOk w (a30.add (i_9.toNat * 1))/\
 (let w31 := w.setCell (a30.add (i_9.toNat * 1)) (Value.int .i64 (-9))
 inR .i64 (i_9 + (1:Int))/\N0 l_0 up_3 p_4 work_5 a_6 want_8 (i_9 + (1:Int)) w31))
 (z0d_l1 l_0 up_3 p_4 work_5 a_6 want_8 (0:Int) K w)
def z0d_l0d (l_0:Sl) (up_3:Bool) (p_4:Addr) (work_5:Int) (a_6:Addr) (want_8:Sl) (i_9:Int) (K:Pw.T0) (w:World):Prop :=
 ∃ (I:Int->World->Prop) (μ:Int->World->Nat), I i_9 w/\∀ (i_91:Int) (w1:World), I i_91 w1 ->
 z0d_b0 l_0 up_3 p_4 work_5 a_6 want_8 i_91 (fun l_0' up_3' p_4' work_5' a_6' want_8' i_9' w'=>((l_0'=l_0/\up_3'=up_3/\p_4'=p_4/\work_5'=work_5/\a_6'=a_6/\want_8'=want_8/\True)/\I i_9' w')/\μ i_9' w' < μ i_91 w1) K w1
structure z0d_l0 (l_0:Sl) (up_3:Bool) (p_4:Addr) (work_5:Int) (a_6:Addr) (want_8:Sl) (i_9:Int) (K:Pw.T0) (w:World):Prop where
 out:z0d_l0d l_0 up_3 p_4 work_5 a_6 want_8 i_9 K w
def z0d_sd (l_0:Sl) (K:Pw.T0) (w:World):Prop :=
 z17_sh (fun r2 w1=>z24_sh l_0 (fun r4_0 r4_1 r4_2 r4_3 r4_4 w3=>let w5 := w3.alloc (Obj.cells #[(Value.slice none 0 0), (Value.slice none 0 0), (Value.slice none 0 0), (Value.int .i64 0), (Value.int .i64 0)] 27)
 stN w5 (Addr.mk w3.heap.size 0 none) [(Value.slice r4_0.p r4_0.l r4_0.c), (Value.slice r4_1.p r4_1.l r4_1.c), (Value.slice r4_2.p r4_2.l r4_2.c), (Value.int .i64 r4_3), (Value.int .i64 r4_4)] fun w6=>∃ x7:Sl, w6.cell? (Addr.mk w3.heap.size 0 none)=some (Value.slice x7.p x7.l x7.c)/\∃ x8:Sl, w6.cell? (Addr.mk w3.heap.size 1 none)=some (Value.slice x8.p x8.l x8.c)/\∃ x9:Sl, w6.cell? (Addr.mk w3.heap.size 2 none)=some (Value.slice x9.p x9.l x9.c)/\∃ x10:Int, w6.cell? (Addr.mk w3.heap.size 3 none)=some (Value.int .i64 x10)/\∃ x11:Int, w6.cell? (Addr.mk w3.heap.size 4 none)=some (Value.int .i64 x11)/\z0n_sh x7 x8 x9 x10 x11 (fun r13 w12=>∃ x14:Sl, w12.cell? (Addr.mk w3.heap.size 0 none)=some (Value.slice x14.p x14.l x14.c)/\∃ x15:Sl, w12.cell? (Addr.mk w3.heap.size 1 none)=some (Value.slice x15.p x15.l x15.c)/\∃ x16:Sl, w12.cell? (Addr.mk w3.heap.size 2 none)=some (Value.slice x16.p x16.l x16.c)/\∃ x17:Int, w12.cell? (Addr.mk w3.heap.size 3 none)=some (Value.int .i64 x17)/\∃ x18:Int, w12.cell? (Addr.mk w3.heap.size 4 none)=some (Value.int .i64 x18)/\z33_sh x14 x15 x16 x17 x18 r13 (fun r20_0 r20_1 r20_2 r20_3 r21 w19=>let w22 := w19.alloc (Obj.cells #[(Value.slice none 0 0), (Value.int .i64 0), (Value.int .i64 0), (Value.slice none 0 0)] 31)
 stN w22 (Addr.mk w19.heap.size 0 none) [(Value.slice r20_0.p r20_0.l r20_0.c), (Value.int .i64 r20_1), (Value.int .i64 r20_2), (Value.slice r20_3.p r20_3.l r20_3.c)] fun w23=>let w24 := w23.alloc (Obj.cells #[] 3)
 ∃ x25:Sl, w24.cell? (Addr.mk w19.heap.size 0 none)=some (Value.slice x25.p x25.l x25.c)/\apS 1 8 [(Value.int .i64 0)] 3 (Sl.mk (some (Addr.mk w23.heap.size 0 none)) 0 0) x25 w24 fun s26 w27=>z0d_l0 l_0 r2 (Addr.mk w3.heap.size 0 none) r13 (Addr.mk w19.heap.size 0 none) s26 (0:Int) K w27) w12) w6) w1) w
structure z0d_sh (l_0:Sl) (K:Pw.T0) (w:World):Prop where
 out:z0d_sd l_0 K w
def z0d_L0 (Kv:VW):Cur [tL, tB, tQ, tI, tQ, tL, tI] WP := fun l_0 up_3 p_4 work_5 a_6 want_8 i_9=>z0d_l0 l_0 up_3 p_4 work_5 a_6 want_8 i_9 (kk [tB] Kv)
def z0d_L1 (Kv:VW):Cur [tL, tB, tQ, tI, tQ, tL, tI] WP := fun l_0 up_3 p_4 work_5 a_6 want_8 i_10=>z0d_l1 l_0 up_3 p_4 work_5 a_6 want_8 i_10 (kk [tB] Kv)
def z0d_L2 (Kv:VW):Cur [tL, tB, tQ, tI, tQ, tL, tI] WP->Cur [tL, tB, tQ, tI, tQ, tL, tI, tI] WP := fun N1 l_0 up_3 p_4 work_5 a_6 want_8 i_10 k_11=>z0d_l2 l_0 up_3 p_4 work_5 a_6 want_8 i_10 k_11 N1 (kk [tB] Kv)
noncomputable def z0d_S:Pw.Spec := fun vs w Kv=>un [tL] (fun l_0=>z0d_sh l_0 (kk [tB] Kv)) nF vs w
def z0d_A (Kv:VW):A := (qr 1 (qr 2 (qr 4 (qr 3 (qr 9 (qr 5 (qs (qr 1 (qb (A.loop [0, 3, 4, 5, 6, 8, 9] (uR0 [tL, tB, tQ, tI, tQ, tL, tI] (z0d_L0 Kv)) (qs (qr 5 (qc ql ql)) (qs (qb (qe 5)) (qe 3)))))) (qs (qr 1 (qb (A.loop [0, 3, 4, 5, 6, 8, 10] (uR0 [tL, tB, tQ, tI, tQ, tL, tI] (z0d_L1 Kv)) (qs (qr 5 (qc ql ql)) (qs (qb (qr 1 (qb (A.loop [0, 3, 4, 5, 6, 8, 10, 11] (uR1 [tL, tB, tQ, tI, tQ, tL, tI] [tL, tB, tQ, tI, tQ, tL, tI, tI] (z0d_L2 Kv)) (qs (qr 9 (qc ql ql)) (qs (qb (qe 9)) (qe 3))))))) (qe 3)))))) (qr 9 (qs (A.drw (dp [0, 1] (DA.spl 73 (dp [2, 3, 4, 5] (DA.spl 77 (dp [6, 7, 8] (DA.eff 9 (dp [10, 11] (DA.spl 83 (dp [12, 13] (DA.eff 14 (dp [15, 16] (DA.spl 88 (dp [17, 19] (DA.eff 18 (DA.eff 20 (dp [21, 22] DA.done)))) (DA.skp 17 (DA.skp 19 (DA.skp 18 (DA.skp 20 (dp [21, 22] DA.done))))))))) (DA.skp 12 (DA.skp 13 (DA.skp 14 (dp [15, 16] (DA.skp 17 (DA.skp 19 (DA.skp 18 (DA.skp 20 (dp [21, 22] DA.done))))))))))))) (DA.skp 6 (DA.skp 7 (DA.skp 8 (DA.skp 9 (dp [10, 11] (DA.skp 12 (DA.skp 13 (DA.skp 14 (dp [15, 16] (DA.skp 17 (DA.skp 19 (DA.skp 18 (DA.skp 20 (dp [21, 22] DA.done)))))))))))))))) (DA.skp 2 (DA.skp 3 (dp [4, 5] (DA.skp 6 (DA.skp 7 (DA.skp 8 (DA.skp 9 (dp [10, 11] (DA.skp 12 (DA.skp 13 (DA.skp 14 (dp [15, 16] (DA.skp 17 (DA.skp 19 (DA.skp 18 (DA.skp 20 (dp [21, 22] DA.done)))))))))))))))))))) ql))))))))))
theorem z0d_ok:Sound Tryz.prog 6 z0d_S := okS (x := z0d_A) (fun Kv l_0=>z0d_sd l_0 (kk [tB] Kv)) progMixed (Γ := [(9, z17_S), (10, z24_S), (11, z33_S), (12, z0n_S), (15, z23_S), (16, z1s_S)]) ⟨.inl z17_ok, .inl z24_ok, .inl z33_ok, .inl z0n_ok, .inl z23_ok, .inl z1s_ok, trivial⟩ Tryz.call6 Tryz.func6 (fun Kv=>hStep (hLoop0 (L := z0d_L0 Kv) (fun N0 l_0 up_3 p_4 work_5 a_6 want_8 i_9=>z0d_b0 l_0 up_3 p_4 work_5 a_6 want_8 i_9 N0 (kk [tB] Kv)) (fun ⟨a0, a1, a2, a3, a4, a5, _, _⟩ _ h=>let ⟨I, μ, h0, hr⟩ := h.out; ⟨fun b0 b1 b2 b3 b4 b5 b6 w=>(b0=a0/\b1=a1/\b2=a2/\b3=a3/\b4=a4/\b5=a5/\True)/\I b6 w, fun _ _ _ _ _ _ b6 w=>μ b6 w, ⟨⟨rfl, rfl, rfl, rfl, rfl, rfl, trivial⟩, h0⟩, fun ⟨_, _, _, _, _, _, _, _⟩ _ ⟨⟨e0, e1, e2, e3, e4, e5, _⟩, hI⟩=>by cases e0; cases e1; cases e2; cases e3; cases e4; cases e5; exact hr _ _ hI⟩)) <| hStep (hLoop0 (L := z0d_L1 Kv) (fun N1 l_0 up_3 p_4 work_5 a_6 want_8 i_10=>z0d_b1 l_0 up_3 p_4 work_5 a_6 want_8 i_10 N1 (kk [tB] Kv)) (fun ⟨a0, a1, a2, a3, a4, a5, _, _⟩ _ h=>let ⟨I, μ, h0, hr⟩ := h.out; ⟨fun b0 b1 b2 b3 b4 b5 b6 w=>(b0=a0/\b1=a1/\b2=a2/\b3=a3/\b4=a4/\b5=a5/\True)/\I b6 w, fun _ _ _ _ _ _ b6 w=>μ b6 w, ⟨⟨rfl, rfl, rfl, rfl, rfl, rfl, trivial⟩, h0⟩, fun ⟨_, _, _, _, _, _, _, _⟩ _ ⟨⟨e0, e1, e2, e3, e4, e5, _⟩, hI⟩=>by cases e0; cases e1; cases e2; cases e3; cases e4; cases e5; exact hr _ _ hI⟩)) <| hStep (hLoop1 (L := z0d_L2 Kv) (fun N1 N2 l_0 up_3 p_4 work_5 a_6 want_8 i_10 k_11=>z0d_b2 l_0 up_3 p_4 work_5 a_6 want_8 i_10 k_11 N2 N1 (kk [tB] Kv)) (fun _ ⟨a0, a1, a2, a3, a4, a5, a6, _, _⟩ _ h=>let ⟨I, μ, h0, hr⟩ := h.out; ⟨fun b0 b1 b2 b3 b4 b5 b6 b7 w=>(b0=a0/\b1=a1/\b2=a2/\b3=a3/\b4=a4/\b5=a5/\b6=a6/\True)/\I b7 w, fun _ _ _ _ _ _ _ b7 w=>μ b7 w, ⟨⟨rfl, rfl, rfl, rfl, rfl, rfl, rfl, trivial⟩, h0⟩, fun ⟨_, _, _, _, _, _, _, _, _⟩ _ ⟨⟨e0, e1, e2, e3, e4, e5, e6, _⟩, hI⟩=>by cases e0; cases e1; cases e2; cases e3; cases e4; cases e5; cases e6; exact hr _ _ hI⟩)) <| hEnd)
end Go.Proofs.YtmkjcheafdionaaGreat
