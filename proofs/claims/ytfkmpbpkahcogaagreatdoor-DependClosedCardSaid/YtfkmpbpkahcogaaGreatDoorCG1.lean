/- The bodies' formulas, by program. -/
import Derived.Test.YtfkmpbpkahcogaaGreatDoorProg
import Derived.KernelRfl
import Derived.Test.YtfkmpbpkahcogaaGreatDoorPwY
import Derived.Test.YtfkmpbpkahcogaaGreatDoorDT
import Derived.Test.YtfkmpbpkahcogaaGreatDoorCG0
set_option maxRecDepth 20000
namespace Go.Proofs.YtfkmpbpkahcogaaGreatDoor
open Go Pw
def z27_sd (n_0:Int) (K:Pw.T8) (w:World):Prop :=
 let w1 := w.alloc (Obj.cells #[(Value.int .i64 0), (Value.int .i64 0)] 35)
 wrOk w1 (Addr.mk w.heap.size 0 none)/\
 (let w2 := w1.setCell (Addr.mk w.heap.size 0 none) (Value.int .i64 n_0)
 wrOk w2 (Addr.mk w.heap.size 1 none)/\
 (let w3 := w2.setCell (Addr.mk w.heap.size 1 none) (Value.int .i64 1)
 ∃ x4:Int, w3.cell? (Addr.mk w.heap.size 0 none)=some (Value.int .i64 x4)/\∃ x5:Int, w3.cell? (Addr.mk w.heap.size 1 none)=some (Value.int .i64 x5)/\K x4 x5 w3))
structure z27_sh (n_0:Int) (K:Pw.T8) (w:World):Prop where
 out:z27_sd n_0 K w
noncomputable def z27_S:Pw.Spec := fun vs w Kv=>un [tI] (fun n_0=>z27_sh n_0 (kk [.g 2, tI, tI] Kv)) nF vs w
def z27_A (_:VW):A := (qr 1 (qr 3 ql))
theorem z27_ok:Sound Tryz.prog 81 z27_S := okS (x := z27_A) (fun Kv n_0=>z27_sd n_0 (kk [.g 2, tI, tI] Kv)) progMixed (Γ := []) trivial Tryz.call81 Tryz.func81 (fun _=>hEnd)
def z0z_sd (n_0:Int) (K:Pw.T1) (w:World):Prop :=
 cnd (decide (n_0 > (-1000000000:Int)))
 (K (decide (n_0 < (1000000000:Int))) w)
 (K false w)
structure z0z_sh (n_0:Int) (K:Pw.T1) (w:World):Prop where
 out:z0z_sd n_0 K w
noncomputable def z0z_S:Pw.Spec := fun vs w Kv=>un [tI] (fun n_0=>z0z_sh n_0 (kk [tB] Kv)) nF vs w
def z0z_A (_:VW):A := (qr 1 (qs (A.reg (qn 3 (RA.spl 5 (qn 4 RA.done) (qk 2 (qn 2 RA.done))))) ql))
theorem z0z_ok:Sound Tryz.prog 82 z0z_S := okS (x := z0z_A) (fun Kv n_0=>z0z_sd n_0 (kk [tB] Kv)) progMixed (Γ := []) trivial Tryz.call82 Tryz.func82 (fun _=>hEnd)
def z0y_b1 (num_0 den_1:Int) (t_4:Addr) (a_5 b_6:Int) (N1:Int->Int->Addr->Int->Int->World->Prop) (K:Pw.T8) (w:World):Prop :=
 cnd (decide (b_6 > (0:Int)))
 (b_6 ≠ 0/\N1 num_0 den_1 t_4 b_6 (Int.tmod a_5 b_6) w)
 (let w2 := w.drew
 ∃ S3:World->Prop, S3 w2/\a_5 ≠ 0/\inR .i64 (Int.tdiv num_0 a_5)/\a_5 ≠ 0/\inR .i64 (Int.tdiv den_1 a_5)/\wrOk w2 t_4/\
 (let w4 := w2.setCell t_4 (Value.int .i64 (Int.tdiv num_0 a_5))
 wrOk w4 (t_4.add 1)/\
 (let w5 := w4.setCell (t_4.add 1) (Value.int .i64 (Int.tdiv den_1 a_5))
 ∃ x6:Int, w5.cell? t_4=some (Value.int .i64 x6)/\∃ x7:Int, w5.cell? (t_4.add 1)=some (Value.int .i64 x7)/\K x6 x7 w5)))
def z0y_l1d (num_0 den_1:Int) (t_4:Addr) (a_5 b_6:Int) (K:Pw.T8) (w:World):Prop :=
 ∃ (I:Int->Int->World->Prop) (μ:Int->Int->World->Nat), I a_5 b_6 w/\∀ (a_51 b_61:Int) (w1:World), I a_51 b_61 w1 ->
 z0y_b1 num_0 den_1 t_4 a_51 b_61 (fun num_0' den_1' t_4' a_5' b_6' w'=>((num_0'=num_0/\den_1'=den_1/\t_4'=t_4/\True)/\I a_5' b_6' w')/\μ a_5' b_6' w' < μ a_51 b_61 w1) K w1
structure z0y_l1 (num_0 den_1:Int) (t_4:Addr) (a_5 b_6:Int) (K:Pw.T8) (w:World):Prop where
 out:z0y_l1d num_0 den_1 t_4 a_5 b_6 K w
def z0y_k0d (num_0 den_1:Int) (t_4:Addr) (K:Pw.T8) (w:World):Prop :=
 inR .i64 (-num_0)/\z0y_l1 num_0 den_1 t_4 (max num_0 (-num_0)) den_1 K w
structure z0y_k0 (num_0 den_1:Int) (t_4:Addr) (K:Pw.T8) (w:World):Prop where
 out:z0y_k0d num_0 den_1 t_4 K w
def z0y_sd (num_0 den_1:Int) (K:Pw.T8) (w:World):Prop :=
 let w1 := w.alloc (Obj.cells #[(Value.int .i64 0), (Value.int .i64 0)] 35)
 cnd (decide (den_1 < (0:Int)))
 (inR .i64 (-num_0)/\inR .i64 (-den_1)/\z0y_k0 (-num_0) (-den_1) (Addr.mk w.heap.size 0 none) K w1)
 (z0y_k0 num_0 den_1 (Addr.mk w.heap.size 0 none) K w1)
structure z0y_sh (num_0 den_1:Int) (K:Pw.T8) (w:World):Prop where
 out:z0y_sd num_0 den_1 K w
def z0y_L0 (Kv:VW):Cur [tI, tI, tQ] WP := fun num_0 den_1 t_4=>z0y_k0 num_0 den_1 t_4 (kk [.g 2, tI, tI] Kv)
def z0y_L1 (Kv:VW):Cur [tI, tI, tQ, tI, tI] WP := fun num_0 den_1 t_4 a_5 b_6=>z0y_l1 num_0 den_1 t_4 a_5 b_6 (kk [.g 2, tI, tI] Kv)
noncomputable def z0y_S:Pw.Spec := fun vs w Kv=>un [tI, tI] (fun num_0 den_1=>z0y_sh num_0 den_1 (kk [.g 2, tI, tI] Kv)) nF vs w
def z0y_A (Kv:VW):A := (qr 1 (qs (qr 2 (qc (qr 3 (qe 3)) ql)) (A.cut [0, 1, 4] (uR0 [tI, tI, tQ] (z0y_L0 Kv)) (qr 5 (qr 2 (qs (qb (A.loop [0, 1, 4, 5, 6] (uR0 [tI, tI, tQ, tI, tI] (z0y_L1 Kv)) (qs (qr 2 (qc ql ql)) (qb (qr 4 (qr 2 (qe 2))))))) (qs (A.drw (dp [0, 1, 2, 3, 4, 5, 6] (DA.eff 7 DA.done))) ql)))))))
theorem z0y_ok:Sound Tryz.prog 83 z0y_S := okS (x := z0y_A) (fun Kv num_0 den_1=>z0y_sd num_0 den_1 (kk [.g 2, tI, tI] Kv)) progMixed (Γ := []) trivial Tryz.call83 Tryz.func83 (fun Kv=>hStep (hCut0 (F := z0y_L0 Kv) (G := fun num_0 den_1 t_4=>z0y_k0d num_0 den_1 t_4 (kk [.g 2, tI, tI] Kv))) <| hStep (hLoop0 (L := z0y_L1 Kv) (fun N1 num_0 den_1 t_4 a_5 b_6=>z0y_b1 num_0 den_1 t_4 a_5 b_6 N1 (kk [.g 2, tI, tI] Kv)) (fun ⟨a0, a1, a2, _, _, _⟩ _ h=>let ⟨I, μ, h0, hr⟩ := h.out; ⟨fun b0 b1 b2 b3 b4 w=>(b0=a0/\b1=a1/\b2=a2/\True)/\I b3 b4 w, fun _ _ _ b3 b4 w=>μ b3 b4 w, ⟨⟨rfl, rfl, rfl, trivial⟩, h0⟩, fun ⟨_, _, _, _, _, _⟩ _ ⟨⟨e0, e1, e2, _⟩, hI⟩=>by cases e0; cases e1; cases e2; exact hr _ _ _ hI⟩)) <| hEnd)
def z29_b1 (n_0:Int) (t_2:Addr) (l_3:Sl) (m_4:Int) (N1:Int->Addr->Sl->Int->World->Prop) (K:Pw.T9) (w:World):Prop :=
 cnd (decide (m_4 > (0:Int)))
 ((65536:Int) ≠ 0/\let w2 := w.alloc (Obj.cells #[(Value.int .i64 (IntKind.wrap .i64 (Int.tmod m_4 (65536:Int))))] 3)
 apS 1 8 [(Value.int .i64 0)] 3 l_3 (Sl.mk (some (Addr.mk w.heap.size 0 none)) 1 1) w2 fun s3 w4=>(65536:Int) ≠ 0/\inR .u64 (Int.tdiv m_4 (65536:Int))/\N1 n_0 t_2 s3 (Int.tdiv m_4 (65536:Int)) w4)
 (wrOk w t_2/\
 (let w5 := w.setCell t_2 (Value.bool (decide (n_0 < (0:Int))))
 wrOk w5 (t_2.add 1)/\
 (let w6 := w5.setCell (t_2.add 1) (Value.slice l_3.p l_3.l l_3.c)
 ∃ x7:Bool, w6.cell? t_2=some (Value.bool x7)/\∃ x8:Sl, w6.cell? (t_2.add 1)=some (Value.slice x8.p x8.l x8.c)/\K x7 x8 w6)))
def z29_l1d (n_0:Int) (t_2:Addr) (l_3:Sl) (m_4:Int) (K:Pw.T9) (w:World):Prop :=
 ∃ (I:Sl->Int->World->Prop) (μ:Sl->Int->World->Nat), I l_3 m_4 w/\∀ (l_31:Sl) (m_41:Int) (w1:World), I l_31 m_41 w1 ->
 z29_b1 n_0 t_2 l_31 m_41 (fun n_0' t_2' l_3' m_4' w'=>((n_0'=n_0/\t_2'=t_2/\True)/\I l_3' m_4' w')/\μ l_3' m_4' w' < μ l_31 m_41 w1) K w1
structure z29_l1 (n_0:Int) (t_2:Addr) (l_3:Sl) (m_4:Int) (K:Pw.T9) (w:World):Prop where
 out:z29_l1d n_0 t_2 l_3 m_4 K w
def z29_k0d (n_0:Int) (t_2:Addr) (l_3:Sl) (m_4:Int) (K:Pw.T9) (w:World):Prop :=
 z29_l1 n_0 t_2 l_3 m_4 K w
structure z29_k0 (n_0:Int) (t_2:Addr) (l_3:Sl) (m_4:Int) (K:Pw.T9) (w:World):Prop where
 out:z29_k0d n_0 t_2 l_3 m_4 K w
def z29_sd (n_0:Int) (K:Pw.T9) (w:World):Prop :=
 let w1 := w.alloc (Obj.cells #[(Value.bool false), (Value.slice none 0 0)] 118)
 cnd (decide (n_0 < (0:Int)))
 (z29_k0 n_0 (Addr.mk w.heap.size 0 none) (Sl.mk none 0 0) (IntKind.wrap .u64 ((0:Int) - (IntKind.wrap .u64 n_0))) K w1)
 (z29_k0 n_0 (Addr.mk w.heap.size 0 none) (Sl.mk none 0 0) (IntKind.wrap .u64 n_0) K w1)
structure z29_sh (n_0:Int) (K:Pw.T9) (w:World):Prop where
 out:z29_sd n_0 K w
def z29_L0 (Kv:VW):Cur [tI, tQ, tL, tU] WP := fun n_0 t_2 l_3 m_4=>z29_k0 n_0 t_2 l_3 m_4 (kk [.g 2, tB, tL] Kv)
def z29_L1 (Kv:VW):Cur [tI, tQ, tL, tU] WP := fun n_0 t_2 l_3 m_4=>z29_l1 n_0 t_2 l_3 m_4 (kk [.g 2, tB, tL] Kv)
noncomputable def z29_S:Pw.Spec := fun vs w Kv=>un [tI] (fun n_0=>z29_sh n_0 (kk [.g 2, tB, tL] Kv)) nF vs w
def z29_A (Kv:VW):A := (qr 1 (qr 1 (qs (A.reg (qn 1 (RA.raw (qn 1 RA.done)))) (qs (qr 2 (qc (A.reg (qn 1 (RA.raw (qn 1 RA.done)))) ql)) (A.cut [0, 2, 3, 4] (uR0 [tI, tQ, tL, tU] (z29_L0 Kv)) (qs (qb (A.loop [0, 2, 3, 4] (uR0 [tI, tQ, tL, tU] (z29_L1 Kv)) (qs (qr 2 (qc ql ql)) (qb (qs (A.reg (qn 3 (RA.raw (qn 3 RA.done)))) (qe 3)))))) (qr 5 ql)))))))
theorem z29_ok:Sound Tryz.prog 85 z29_S := okS (x := z29_A) (fun Kv n_0=>z29_sd n_0 (kk [.g 2, tB, tL] Kv)) progMixed (Γ := []) trivial Tryz.call85 Tryz.func85 (fun Kv=>hStep (hCut0 (F := z29_L0 Kv) (G := fun n_0 t_2 l_3 m_4=>z29_k0d n_0 t_2 l_3 m_4 (kk [.g 2, tB, tL] Kv))) <| hStep (hLoop0 (L := z29_L1 Kv) (fun N1 n_0 t_2 l_3 m_4=>z29_b1 n_0 t_2 l_3 m_4 N1 (kk [.g 2, tB, tL] Kv)) (fun ⟨a0, a1, _, _, _⟩ _ h=>let ⟨I, μ, h0, hr⟩ := h.out; ⟨fun b0 b1 b2 b3 w=>(b0=a0/\b1=a1/\True)/\I b2 b3 w, fun _ _ b2 b3 w=>μ b2 b3 w, ⟨⟨rfl, rfl, trivial⟩, h0⟩, fun ⟨_, _, _, _, _⟩ _ ⟨⟨e0, e1, _⟩, hI⟩=>by cases e0; cases e1; exact hr _ _ _ hI⟩)) <| hEnd)
def z1d_b0 (l_0:Sl) (N0:Sl->World->Prop) (K:Pw.T0) (w:World):Prop :=
 cnd (decide ((l_0.l:Int) > (0:Int)))
 (inR .i64 ((l_0.l:Int) - (1:Int))/\nz l_0.p fun a1=>(0 <= ((l_0.l:Int) - (1:Int))/\((l_0.l:Int) - (1:Int)) < (l_0.l:Nat))/\∃ x2:Int, w.cell? (a1.add (((l_0.l:Int) - (1:Int)).toNat * 1))=some (Value.int .i64 x2)/\cnd (x2 == (0:Int))
 (inR .i64 ((l_0.l:Int) - (1:Int))/\(0 <= (0:Int)/\(0:Int) <= ((l_0.l:Int) - (1:Int))/\((l_0.l:Int) - (1:Int)) <= (l_0.c:Nat))/\N0 (Sl.mk (subP l_0.p 0 l_0.c 1) (((l_0.l:Int) - (1:Int)).toNat - 0) (l_0.c - 0)) w)
 (K l_0 w))
 (K l_0 w)
def z1d_l0d (l_0:Sl) (K:Pw.T0) (w:World):Prop :=
 ∃ (I:Sl->World->Prop) (μ:Sl->World->Nat), I l_0 w/\∀ (l_01:Sl) (w1:World), I l_01 w1 ->
 z1d_b0 l_01 (fun l_0' w'=>((True)/\I l_0' w')/\μ l_0' w' < μ l_01 w1) K w1
structure z1d_l0 (l_0:Sl) (K:Pw.T0) (w:World):Prop where
 out:z1d_l0d l_0 K w
def z1d_sd (l_0:Sl) (K:Pw.T0) (w:World):Prop :=
 z1d_l0 l_0 K w
structure z1d_sh (l_0:Sl) (K:Pw.T0) (w:World):Prop where
 out:z1d_sd l_0 K w
def z1d_L0 (Kv:VW):Cur [tL] WP := fun l_0=>z1d_l0 l_0 (kk [tL] Kv)
noncomputable def z1d_S:Pw.Spec := fun vs w Kv=>un [tL] (fun l_0=>z1d_sh l_0 (kk [tL] Kv)) nF vs w
def z1d_A (Kv:VW):A := (qr 1 (qs (qb (A.loop [0] (uR0 [tL] (z1d_L0 Kv)) (qs (qs (A.reg (qn 4 (RA.spl 6 (qn 8 RA.done) (qk 7 (qn 1 RA.done))))) (qc ql ql)) (qb (qe 6))))) (qr 2 ql)))
theorem z1d_ok:Sound Tryz.prog 102 z1d_S := okS (x := z1d_A) (fun Kv l_0=>z1d_sd l_0 (kk [tL] Kv)) progMixed (Γ := []) trivial Tryz.call102 Tryz.func102 (fun Kv=>hStep (hLoop0 (L := z1d_L0 Kv) (fun N0 l_0=>z1d_b0 l_0 N0 (kk [tL] Kv)) (fun ⟨_, _⟩ _ h=>let ⟨I, μ, h0, hr⟩ := h.out; ⟨fun b0 w=>(True)/\I b0 w, fun b0 w=>μ b0 w, ⟨trivial, h0⟩, fun ⟨_, _⟩ _ ⟨_, hI⟩=>by exact hr _ _ hI⟩)) <| hEnd)
def z0f_b0 (a_0 b_1:Sl) (i_5:Int) (N0:Sl->Sl->Int->World->Prop) (K:Pw.T2) (w:World):Prop :=
 cnd (decide (i_5 >= (0:Int)))
 (let w1 := w.drew
 nz a_0.p fun a2=>(0 <= i_5/\i_5 < (a_0.l:Nat))/\∃ x3:Int, w1.cell? (a2.add (i_5.toNat * 1))=some (Value.int .i64 x3)/\nz b_1.p fun a4=>(0 <= i_5/\i_5 < (b_1.l:Nat))/\∃ x5:Int, w1.cell? (a4.add (i_5.toNat * 1))=some (Value.int .i64 x5)/\cnd (x3 != x5)
 (let w6 := w1.drew
 nz a_0.p fun a7=>(0 <= i_5/\i_5 < (a_0.l:Nat))/\∃ x8:Int, w6.cell? (a7.add (i_5.toNat * 1))=some (Value.int .i64 x8)/\nz b_1.p fun a9=>(0 <= i_5/\i_5 < (b_1.l:Nat))/\∃ x10:Int, w6.cell? (a9.add (i_5.toNat * 1))=some (Value.int .i64 x10)/\cnd (decide (x8 < x10))
 (K (-1:Int) w6)
 (K (1:Int) w6))
 (inR .i64 (i_5 - (1:Int))/\N0 a_0 b_1 (i_5 - (1:Int)) w1))
 (K (0:Int) w)
def z0f_l0d (a_0 b_1:Sl) (i_5:Int) (K:Pw.T2) (w:World):Prop :=
 ∃ (I:Int->World->Prop) (μ:Int->World->Nat), I i_5 w/\∀ (i_51:Int) (w1:World), I i_51 w1 ->
 z0f_b0 a_0 b_1 i_51 (fun a_0' b_1' i_5' w'=>((a_0'=a_0/\b_1'=b_1/\True)/\I i_5' w')/\μ i_5' w' < μ i_51 w1) K w1
structure z0f_l0 (a_0 b_1:Sl) (i_5:Int) (K:Pw.T2) (w:World):Prop where
 out:z0f_l0d a_0 b_1 i_5 K w
def z0f_sd (a_0 b_1:Sl) (K:Pw.T2) (w:World):Prop :=
 cnd ((a_0.l:Int) != (b_1.l:Int))
 (cnd (decide ((a_0.l:Int) < (b_1.l:Int)))
 (K (-1:Int) w)
 (K (1:Int) w))
 (inR .i64 ((a_0.l:Int) - (1:Int))/\z0f_l0 a_0 b_1 ((a_0.l:Int) - (1:Int)) K w)
structure z0f_sh (a_0 b_1:Sl) (K:Pw.T2) (w:World):Prop where
 out:z0f_sd a_0 b_1 K w
def z0f_L0 (Kv:VW):Cur [tL, tL, tI] WP := fun a_0 b_1 i_5=>z0f_l0 a_0 b_1 i_5 (kk [tI] Kv)
noncomputable def z0f_S:Pw.Spec := fun vs w Kv=>un [tL, tL] (fun a_0 b_1=>z0f_sh a_0 b_1 (kk [tI] Kv)) nF vs w
def z0f_A (Kv:VW):A := (qr 1 (qs (qr 5 (qc (qs (qr 5 (qc (qr 1 ql) ql)) (qr 1 ql)) ql)) (qs (qr 4 (qb (A.loop [0, 1, 5] (uR0 [tL, tL, tI] (z0f_L0 Kv)) (qs (qr 2 (qc ql ql)) (qs (qb (qs (A.drp (dp [0, 1, 2, 3, 4, 5, 6, 7, 8] DA.done)) (qc (qs (qs (A.drp (dp [0, 1, 2, 3, 4, 5, 6, 7, 8] DA.done)) (qc (qr 1 ql) ql)) (qr 1 ql)) ql))) (qe 3)))))) (qr 1 ql))))
theorem z0f_ok:Sound Tryz.prog 115 z0f_S := okS (x := z0f_A) (fun Kv a_0 b_1=>z0f_sd a_0 b_1 (kk [tI] Kv)) progMixed (Γ := []) trivial Tryz.call115 Tryz.func115 (fun Kv=>hStep (hLoop0 (L := z0f_L0 Kv) (fun N0 a_0 b_1 i_5=>z0f_b0 a_0 b_1 i_5 N0 (kk [tI] Kv)) (fun ⟨a0, a1, _, _⟩ _ h=>let ⟨I, μ, h0, hr⟩ := h.out; ⟨fun b0 b1 b2 w=>(b0=a0/\b1=a1/\True)/\I b2 w, fun _ _ b2 w=>μ b2 w, ⟨⟨rfl, rfl, trivial⟩, h0⟩, fun ⟨_, _, _, _⟩ _ ⟨⟨e0, e1, _⟩, hI⟩=>by cases e0; cases e1; exact hr _ _ hI⟩)) <| hEnd)
def z10_b1 (a_0 b_1 out_5:Sl) (i_6 carry_7 k_8:Int) (N1:Sl->Sl->Sl->Int->Int->Int->World->Prop) (N0:Sl->Sl->Sl->Int->World->Prop) (K:Pw.T0) (w:World):Prop :=
 cnd (decide (k_8 < (b_1.l:Int)))
 (let w3 := w.drew
 inR .i64 (i_6 + k_8)/\nz out_5.p fun a4=>(0 <= (i_6 + k_8)/\(i_6 + k_8) < (out_5.l:Nat))/\∃ x5:Int, w3.cell? (a4.add ((i_6 + k_8).toNat * 1))=some (Value.int .i64 x5)/\nz a_0.p fun a6=>(0 <= i_6/\i_6 < (a_0.l:Nat))/\∃ x7:Int, w3.cell? (a6.add (i_6.toNat * 1))=some (Value.int .i64 x7)/\nz b_1.p fun a8=>(0 <= k_8/\k_8 < (b_1.l:Nat))/\∃ x9:Int, w3.cell? (a8.add (k_8.toNat * 1))=some (Value.int .i64 x9)/\inR .i64 (x7 * x9)/\inR .i64 (x5 + (x7 * x9))/\inR .i64 ((x5 + (x7 * x9)) + carry_7)/\inR .i64 (i_6 + k_8)/\(65536:Int) ≠ 0/\nz out_5.p fun a10=>(0 <= (i_6 + k_8)/\(i_6 + k_8) < (out_5.l:Nat))/\wrOk w3 (a10.add ((i_6 + k_8).toNat * 1))/\
 (let w11 := w3.setCell (a10.add ((i_6 + k_8).toNat * 1)) (Value.int .i64 (Int.tmod ((x5 + (x7 * x9)) + carry_7) (65536:Int)))
 (65536:Int) ≠ 0/\inR .i64 (Int.tdiv ((x5 + (x7 * x9)) + carry_7) (65536:Int))/\inR .i64 (k_8 + (1:Int))/\N1 a_0 b_1 out_5 i_6 (Int.tdiv ((x5 + (x7 * x9)) + carry_7) (65536:Int)) (k_8 + (1:Int)) w11))
 (inR .i64 (i_6 + (b_1.l:Int))/\nz out_5.p fun a12=>(0 <= (i_6 + (b_1.l:Int))/\(i_6 + (b_1.l:Int)) < (out_5.l:Nat))/\wrOk w (a12.add ((i_6 + (b_1.l:Int)).toNat * 1))/\
 (let w13 := w.setCell (a12.add ((i_6 + (b_1.l:Int)).toNat * 1)) (Value.int .i64 carry_7)
 inR .i64 (i_6 + (1:Int))/\N0 a_0 b_1 out_5 (i_6 + (1:Int)) w13))
def z10_l1d (a_0 b_1 out_5:Sl) (i_6 carry_7 k_8:Int) (N0:Sl->Sl->Sl->Int->World->Prop) (K:Pw.T0) (w:World):Prop :=
 ∃ (I:Int->Int->World->Prop) (μ:Int->Int->World->Nat), I carry_7 k_8 w/\∀ (carry_71 k_81:Int) (w1:World), I carry_71 k_81 w1 ->
 z10_b1 a_0 b_1 out_5 i_6 carry_71 k_81 (fun a_0' b_1' out_5' i_6' carry_7' k_8' w'=>((a_0'=a_0/\b_1'=b_1/\out_5'=out_5/\i_6'=i_6/\True)/\I carry_7' k_8' w')/\μ carry_7' k_8' w' < μ carry_71 k_81 w1) N0 K w1
structure z10_l1 (a_0 b_1 out_5:Sl) (i_6 carry_7 k_8:Int) (N0:Sl->Sl->Sl->Int->World->Prop) (K:Pw.T0) (w:World):Prop where
 out:z10_l1d a_0 b_1 out_5 i_6 carry_7 k_8 N0 K w
def z10_b0 (a_0 b_1 out_5:Sl) (i_6:Int) (N0:Sl->Sl->Sl->Int->World->Prop) (K:Pw.T0) (w:World):Prop :=
 cnd (decide (i_6 < (a_0.l:Int)))
 (z10_l1 a_0 b_1 out_5 i_6 (0:Int) (0:Int) N0 K w)
 (z1d_sh out_5 (fun r15 w14=>K r15 w14) w)
def z10_l0d (a_0 b_1 out_5:Sl) (i_6:Int) (K:Pw.T0) (w:World):Prop :=
 ∃ (I:Int->World->Prop) (μ:Int->World->Nat), I i_6 w/\∀ (i_61:Int) (w1:World), I i_61 w1 ->
 z10_b0 a_0 b_1 out_5 i_61 (fun a_0' b_1' out_5' i_6' w'=>((a_0'=a_0/\b_1'=b_1/\out_5'=out_5/\True)/\I i_6' w')/\μ i_6' w' < μ i_61 w1) K w1
structure z10_l0 (a_0 b_1 out_5:Sl) (i_6:Int) (K:Pw.T0) (w:World):Prop where
 out:z10_l0d a_0 b_1 out_5 i_6 K w
def z10_sd (a_0 b_1:Sl) (K:Pw.T0) (w:World):Prop :=
 inR .i64 ((a_0.l:Int) + (b_1.l:Int))/\mkS 8 [(Value.int .i64 0)] 3 ((a_0.l:Int) + (b_1.l:Int)) ((a_0.l:Int) + (b_1.l:Int)) w fun s1 w2=>z10_l0 a_0 b_1 s1 (0:Int) K w2
structure z10_sh (a_0 b_1:Sl) (K:Pw.T0) (w:World):Prop where
 out:z10_sd a_0 b_1 K w
def z10_L0 (Kv:VW):Cur [tL, tL, tL, tI] WP := fun a_0 b_1 out_5 i_6=>z10_l0 a_0 b_1 out_5 i_6 (kk [tL] Kv)
def z10_L1 (Kv:VW):Cur [tL, tL, tL, tI] WP->Cur [tL, tL, tL, tI, tI, tI] WP := fun N0 a_0 b_1 out_5 i_6 carry_7 k_8=>z10_l1 a_0 b_1 out_5 i_6 carry_7 k_8 N0 (kk [tL] Kv)
noncomputable def z10_S:Pw.Spec := fun vs w Kv=>un [tL, tL] (fun a_0 b_1=>z10_sh a_0 b_1 (kk [tL] Kv)) nF vs w
def z10_A (Kv:VW):A := (qr 1 (qr 7 (qs (qr 1 (qb (A.loop [0, 1, 5, 6] (uR0 [tL, tL, tL, tI] (z10_L0 Kv)) (qs (qr 4 (qc ql ql)) (qs (qb (qr 1 (qs (qr 1 (qb (A.loop [0, 1, 5, 6, 7, 8] (uR1 [tL, tL, tL, tI] [tL, tL, tL, tI, tI, tI] (z10_L1 Kv)) (qs (qr 4 (qc ql ql)) (qs (qb (qs (A.drp (dp [0, 1, 2, 3, 4, 5, 6, 7, 8, 9, 10, 11, 12, 13, 14, 15, 16, 17, 18] DA.done)) (qr 8 (qe 3)))) (qe 3)))))) (qe 8)))) (qe 3)))))) (qr 3 ql))))
theorem z10_ok:Sound Tryz.prog 132 z10_S := okS (x := z10_A) (fun Kv a_0 b_1=>z10_sd a_0 b_1 (kk [tL] Kv)) progMixed (Γ := [(102, z1d_S)]) ⟨.inl z1d_ok, trivial⟩ Tryz.call132 Tryz.func132 (fun Kv=>hStep (hLoop0 (L := z10_L0 Kv) (fun N0 a_0 b_1 out_5 i_6=>z10_b0 a_0 b_1 out_5 i_6 N0 (kk [tL] Kv)) (fun ⟨a0, a1, a2, _, _⟩ _ h=>let ⟨I, μ, h0, hr⟩ := h.out; ⟨fun b0 b1 b2 b3 w=>(b0=a0/\b1=a1/\b2=a2/\True)/\I b3 w, fun _ _ _ b3 w=>μ b3 w, ⟨⟨rfl, rfl, rfl, trivial⟩, h0⟩, fun ⟨_, _, _, _, _⟩ _ ⟨⟨e0, e1, e2, _⟩, hI⟩=>by cases e0; cases e1; cases e2; exact hr _ _ hI⟩)) <| hStep (hLoop1 (L := z10_L1 Kv) (fun N0 N1 a_0 b_1 out_5 i_6 carry_7 k_8=>z10_b1 a_0 b_1 out_5 i_6 carry_7 k_8 N1 N0 (kk [tL] Kv)) (fun _ ⟨a0, a1, a2, a3, _, _, _⟩ _ h=>let ⟨I, μ, h0, hr⟩ := h.out; ⟨fun b0 b1 b2 b3 b4 b5 w=>(b0=a0/\b1=a1/\b2=a2/\b3=a3/\True)/\I b4 b5 w, fun _ _ _ _ b4 b5 w=>μ b4 b5 w, ⟨⟨rfl, rfl, rfl, rfl, trivial⟩, h0⟩, fun ⟨_, _, _, _, _, _, _⟩ _ ⟨⟨e0, e1, e2, e3, _⟩, hI⟩=>by cases e0; cases e1; cases e2; cases e3; exact hr _ _ _ hI⟩)) <| hEnd)
def z28_sd (a_0:Sl) (d_1:Int) (K:Pw.T0) (w:World):Prop :=
 let w1 := w.alloc (Obj.cells #[(Value.int .i64 d_1)] 3)
 z10_sh a_0 (Sl.mk (some (Addr.mk w.heap.size 0 none)) 1 1) (fun r3 w2=>K r3 w2) w1
structure z28_sh (a_0:Sl) (d_1:Int) (K:Pw.T0) (w:World):Prop where
 out:z28_sd a_0 d_1 K w
noncomputable def z28_S:Pw.Spec := fun vs w Kv=>un [tL, tI] (fun a_0 d_1=>z28_sh a_0 d_1 (kk [tL] Kv)) nF vs w
def z28_A (_:VW):A := (qr 1 (qr 5 ql))
theorem z28_ok:Sound Tryz.prog 116 z28_S := okS (x := z28_A) (fun Kv a_0 d_1=>z28_sd a_0 d_1 (kk [tL] Kv)) progMixed (Γ := [(132, z10_S)]) ⟨.inl z10_ok, trivial⟩ Tryz.call116 Tryz.func116 (fun _=>hEnd)
def z0x_k2d (a_0 b_1 out_5:Sl) (borrow_6 i_7 d_8:Int) (N0:Sl->Sl->Sl->Int->Int->World->Prop) (K:Pw.T0) (w:World):Prop :=
 let w5 := w.alloc (Obj.cells #[(Value.int .i64 d_8)] 3)
 apS 1 8 [(Value.int .i64 0)] 3 out_5 (Sl.mk (some (Addr.mk w.heap.size 0 none)) 1 1) w5 fun s6 w7=>inR .i64 (i_7 + (1:Int))/\N0 a_0 b_1 s6 borrow_6 (i_7 + (1:Int)) w7
structure z0x_k2 (a_0 b_1 out_5:Sl) (borrow_6 i_7 d_8:Int) (N0:Sl->Sl->Sl->Int->Int->World->Prop) (K:Pw.T0) (w:World):Prop where
 out:z0x_k2d a_0 b_1 out_5 borrow_6 i_7 d_8 N0 K w
def z0x_k1d (a_0 b_1 out_5:Sl) (i_7 d_8:Int) (N0:Sl->Sl->Sl->Int->Int->World->Prop) (K:Pw.T0) (w:World):Prop :=
 cnd (decide (d_8 < (0:Int)))
 (inR .i64 (d_8 + (65536:Int))/\z0x_k2 a_0 b_1 out_5 (1:Int) i_7 (d_8 + (65536:Int)) N0 K w)
 (z0x_k2 a_0 b_1 out_5 (0:Int) i_7 d_8 N0 K w)
structure z0x_k1 (a_0 b_1 out_5:Sl) (i_7 d_8:Int) (N0:Sl->Sl->Sl->Int->Int->World->Prop) (K:Pw.T0) (w:World):Prop where
 out:z0x_k1d a_0 b_1 out_5 i_7 d_8 N0 K w
def z0x_b0 (a_0 b_1 out_5:Sl) (borrow_6 i_7:Int) (N0:Sl->Sl->Sl->Int->Int->World->Prop) (K:Pw.T0) (w:World):Prop :=
 cnd (decide (i_7 < (a_0.l:Int)))
 (nz a_0.p fun a1=>(0 <= i_7/\i_7 < (a_0.l:Nat))/\∃ x2:Int, w.cell? (a1.add (i_7.toNat * 1))=some (Value.int .i64 x2)/\inR .i64 (x2 - borrow_6)/\cnd (decide (i_7 < (b_1.l:Int)))
 (nz b_1.p fun a3=>(0 <= i_7/\i_7 < (b_1.l:Nat))/\∃ x4:Int, w.cell? (a3.add (i_7.toNat * 1))=some (Value.int .i64 x4)/\inR .i64 ((x2 - borrow_6) - x4)/\z0x_k1 a_0 b_1 out_5 i_7 ((x2 - borrow_6) - x4) N0 K w)
 (z0x_k1 a_0 b_1 out_5 i_7 (x2 - borrow_6) N0 K w))
 (z1d_sh out_5 (fun r9 w8=>K r9 w8) w)
def z0x_l0d (a_0 b_1 out_5:Sl) (borrow_6 i_7:Int) (K:Pw.T0) (w:World):Prop :=
 ∃ (I:Sl->Int->Int->World->Prop) (μ:Sl->Int->Int->World->Nat), I out_5 borrow_6 i_7 w/\∀ (out_51:Sl) (borrow_61 i_71:Int) (w1:World), I out_51 borrow_61 i_71 w1 ->
 z0x_b0 a_0 b_1 out_51 borrow_61 i_71 (fun a_0' b_1' out_5' borrow_6' i_7' w'=>((a_0'=a_0/\b_1'=b_1/\True)/\I out_5' borrow_6' i_7' w')/\μ out_5' borrow_6' i_7' w' < μ out_51 borrow_61 i_71 w1) K w1
structure z0x_l0 (a_0 b_1 out_5:Sl) (borrow_6 i_7:Int) (K:Pw.T0) (w:World):Prop where
 out:z0x_l0d a_0 b_1 out_5 borrow_6 i_7 K w
def z0x_sd (a_0 b_1:Sl) (K:Pw.T0) (w:World):Prop :=
 z0x_l0 a_0 b_1 (Sl.mk none 0 0) (0:Int) (0:Int) K w
structure z0x_sh (a_0 b_1:Sl) (K:Pw.T0) (w:World):Prop where
 out:z0x_sd a_0 b_1 K w
def z0x_L0 (Kv:VW):Cur [tL, tL, tL, tI, tI] WP := fun a_0 b_1 out_5 borrow_6 i_7=>z0x_l0 a_0 b_1 out_5 borrow_6 i_7 (kk [tL] Kv)
def z0x_L1 (Kv:VW):Cur [tL, tL, tL, tI, tI] WP->Cur [tL, tL, tL, tI, tI] WP := fun N0 a_0 b_1 out_5 i_7 d_8=>z0x_k1 a_0 b_1 out_5 i_7 d_8 N0 (kk [tL] Kv)
def z0x_L2 (Kv:VW):Cur [tL, tL, tL, tI, tI] WP->Cur [tL, tL, tL, tI, tI, tI] WP := fun N0 a_0 b_1 out_5 borrow_6 i_7 d_8=>z0x_k2 a_0 b_1 out_5 borrow_6 i_7 d_8 N0 (kk [tL] Kv)
noncomputable def z0x_S:Pw.Spec := fun vs w Kv=>un [tL, tL] (fun a_0 b_1=>z0x_sh a_0 b_1 (kk [tL] Kv)) nF vs w
def z0x_A (Kv:VW):A := (qr 1 (qr 1 (qr 1 (qs (qr 1 (qb (A.loop [0, 1, 5, 6, 7] (uR0 [tL, tL, tL, tI, tI] (z0x_L0 Kv)) (qs (qr 4 (qc ql ql)) (qs (qb (qr 7 (qs (qr 4 (qc (qe 7) ql)) (A.cut [0, 1, 5, 7, 8] (uR1 [tL, tL, tL, tI, tI] [tL, tL, tL, tI, tI] (z0x_L1 Kv)) (qr 1 (qs (qr 2 (qc (qr 3 (qe 1)) ql)) (A.cut [0, 1, 5, 6, 7, 8] (uR1 [tL, tL, tL, tI, tI] [tL, tL, tL, tI, tI, tI] (z0x_L2 Kv)) (qe 5)))))))) (qe 3)))))) (qr 3 ql)))))
theorem z0x_ok:Sound Tryz.prog 117 z0x_S := okS (x := z0x_A) (fun Kv a_0 b_1=>z0x_sd a_0 b_1 (kk [tL] Kv)) progMixed (Γ := [(102, z1d_S)]) ⟨.inl z1d_ok, trivial⟩ Tryz.call117 Tryz.func117 (fun Kv=>hStep (hLoop0 (L := z0x_L0 Kv) (fun N0 a_0 b_1 out_5 borrow_6 i_7=>z0x_b0 a_0 b_1 out_5 borrow_6 i_7 N0 (kk [tL] Kv)) (fun ⟨a0, a1, _, _, _, _⟩ _ h=>let ⟨I, μ, h0, hr⟩ := h.out; ⟨fun b0 b1 b2 b3 b4 w=>(b0=a0/\b1=a1/\True)/\I b2 b3 b4 w, fun _ _ b2 b3 b4 w=>μ b2 b3 b4 w, ⟨⟨rfl, rfl, trivial⟩, h0⟩, fun ⟨_, _, _, _, _, _⟩ _ ⟨⟨e0, e1, _⟩, hI⟩=>by cases e0; cases e1; exact hr _ _ _ _ hI⟩)) <| hStep (hCut1 (F := z0x_L1 Kv) (G := fun N0 a_0 b_1 out_5 i_7 d_8=>z0x_k1d a_0 b_1 out_5 i_7 d_8 N0 (kk [tL] Kv))) <| hStep (hCut1 (F := z0x_L2 Kv) (G := fun N0 a_0 b_1 out_5 borrow_6 i_7 d_8=>z0x_k2d a_0 b_1 out_5 borrow_6 i_7 d_8 N0 (kk [tL] Kv))) <| hEnd)
def z1c_b2 (a_0 b_1:Sl) (q_6 r_7:Sl) (i_8 low_9 high_10:Int) (N2:Sl->Sl->Sl->Sl->Int->Int->Int->World->Prop) (N0:Sl->Sl->Sl->Sl->Int->World->Prop) (K:Pw.T7) (w:World):Prop :=
 inR .i64 (high_10 - low_9)/\cnd (decide ((high_10 - low_9) > (1:Int)))
 (inR .i64 (low_9 + high_10)/\(2:Int) ≠ 0/\inR .i64 (Int.tdiv (low_9 + high_10) (2:Int))/\z28_sh b_1 (Int.tdiv (low_9 + high_10) (2:Int)) (fun r13 w12=>z0f_sh r13 r_7 (fun r15 w14=>cnd (decide (r15 <= (0:Int)))
 (N2 a_0 b_1 q_6 r_7 i_8 (Int.tdiv (low_9 + high_10) (2:Int)) high_10 w14)
 (N2 a_0 b_1 q_6 r_7 i_8 low_9 (Int.tdiv (low_9 + high_10) (2:Int)) w14)) w12) w)
 (nz q_6.p fun a16=>(0 <= i_8/\i_8 < (q_6.l:Nat))/\wrOk w (a16.add (i_8.toNat * 1))/\
 (let w17 := w.setCell (a16.add (i_8.toNat * 1)) (Value.int .i64 low_9)
 z28_sh b_1 low_9 (fun r19 w18=>z0x_sh r_7 r19 (fun r21 w20=>inR .i64 (i_8 - (1:Int))/\N0 a_0 b_1 q_6 r21 (i_8 - (1:Int)) w20) w18) w17))
def z1c_l2d (a_0 b_1:Sl) (q_6 r_7:Sl) (i_8 low_9 high_10:Int) (N0:Sl->Sl->Sl->Sl->Int->World->Prop) (K:Pw.T7) (w:World):Prop :=
 ∃ (I:Int->Int->World->Prop) (μ:Int->Int->World->Nat), I low_9 high_10 w/\∀ (low_91 high_101:Int) (w1:World), I low_91 high_101 w1 ->
 z1c_b2 a_0 b_1 q_6 r_7 i_8 low_91 high_101 (fun a_0' b_1' q_6' r_7' i_8' low_9' high_10' w'=>((a_0'=a_0/\b_1'=b_1/\q_6'=q_6/\r_7'=r_7/\i_8'=i_8/\True)/\I low_9' high_10' w')/\μ low_9' high_10' w' < μ low_91 high_101 w1) N0 K w1
structure z1c_l2 (a_0 b_1:Sl) (q_6 r_7:Sl) (i_8 low_9 high_10:Int) (N0:Sl->Sl->Sl->Sl->Int->World->Prop) (K:Pw.T7) (w:World):Prop where
 out:z1c_l2d a_0 b_1 q_6 r_7 i_8 low_9 high_10 N0 K w
def z1c_k1d (a_0 b_1:Sl) (q_6 r_7:Sl) (i_8 low_9 high_10:Int) (N0:Sl->Sl->Sl->Sl->Int->World->Prop) (K:Pw.T7) (w:World):Prop :=
 z1c_l2 a_0 b_1 q_6 r_7 i_8 low_9 high_10 N0 K w
structure z1c_k1 (a_0 b_1:Sl) (q_6 r_7:Sl) (i_8 low_9 high_10:Int) (N0:Sl->Sl->Sl->Sl->Int->World->Prop) (K:Pw.T7) (w:World):Prop where
 out:z1c_k1d a_0 b_1 q_6 r_7 i_8 low_9 high_10 N0 K w
def z1c_b0 (a_0 b_1:Sl) (q_6 r_7:Sl) (i_8:Int) (N0:Sl->Sl->Sl->Sl->Int->World->Prop) (K:Pw.T7) (w:World):Prop :=
 cnd (decide (i_8 >= (0:Int)))
 (nz a_0.p fun a3=>(0 <= i_8/\i_8 < (a_0.l:Nat))/\∃ x4:Int, w.cell? (a3.add (i_8.toNat * 1))=some (Value.int .i64 x4)/\let w5 := w.alloc (Obj.cells #[(Value.int .i64 x4)] 3)
 apS 1 8 [(Value.int .i64 0)] 3 (Sl.mk (some (Addr.mk w.heap.size 0 none)) 1 1) r_7 w5 fun s6 w7=>z1d_sh s6 (fun r9 w8=>z0f_sh r9 b_1 (fun r11 w10=>cnd (decide (r11 < (0:Int)))
 (z1c_k1 a_0 b_1 q_6 r9 i_8 (0:Int) (1:Int) N0 K w10)
 (z1c_k1 a_0 b_1 q_6 r9 i_8 (0:Int) (65536:Int) N0 K w10)) w8) w7)
 (z1d_sh q_6 (fun r23 w22=>K r23 r_7 w22) w)
def z1c_l0d (a_0 b_1:Sl) (q_6 r_7:Sl) (i_8:Int) (K:Pw.T7) (w:World):Prop :=
 ∃ (I:Sl->Int->World->Prop) (μ:Sl->Int->World->Nat), I r_7 i_8 w/\∀ (r_71:Sl) (i_81:Int) (w1:World), I r_71 i_81 w1 ->
 z1c_b0 a_0 b_1 q_6 r_71 i_81 (fun a_0' b_1' q_6' r_7' i_8' w'=>((a_0'=a_0/\b_1'=b_1/\q_6'=q_6/\True)/\I r_7' i_8' w')/\μ r_7' i_8' w' < μ r_71 i_81 w1) K w1
structure z1c_l0 (a_0 b_1:Sl) (q_6 r_7:Sl) (i_8:Int) (K:Pw.T7) (w:World):Prop where
 out:z1c_l0d a_0 b_1 q_6 r_7 i_8 K w
def z1c_sd (a_0 b_1:Sl) (K:Pw.T7) (w:World):Prop :=
 mkS 8 [(Value.int .i64 0)] 3 (a_0.l:Int) (a_0.l:Int) w fun s1 w2=>inR .i64 ((a_0.l:Int) - (1:Int))/\z1c_l0 a_0 b_1 s1 (Sl.mk none 0 0) ((a_0.l:Int) - (1:Int)) K w2
structure z1c_sh (a_0 b_1:Sl) (K:Pw.T7) (w:World):Prop where
 out:z1c_sd a_0 b_1 K w
def z1c_L0 (Kv:VW):Cur [tL, tL, tL, tL, tI] WP := fun a_0 b_1 q_6 r_7 i_8=>z1c_l0 a_0 b_1 q_6 r_7 i_8 (kk [.u 2, tL, tL] Kv)
def z1c_L1 (Kv:VW):Cur [tL, tL, tL, tL, tI] WP->Cur [tL, tL, tL, tL, tI, tI, tI] WP := fun N0 a_0 b_1 q_6 r_7 i_8 low_9 high_10=>z1c_k1 a_0 b_1 q_6 r_7 i_8 low_9 high_10 N0 (kk [.u 2, tL, tL] Kv)
def z1c_L2 (Kv:VW):Cur [tL, tL, tL, tL, tI] WP->Cur [tL, tL, tL, tL, tI, tI, tI] WP := fun N0 a_0 b_1 q_6 r_7 i_8 low_9 high_10=>z1c_l2 a_0 b_1 q_6 r_7 i_8 low_9 high_10 N0 (kk [.u 2, tL, tL] Kv)
noncomputable def z1c_S:Pw.Spec := fun vs w Kv=>un [tL, tL] (fun a_0 b_1=>z1c_sh a_0 b_1 (kk [.u 2, tL, tL] Kv)) nF vs w
def z1c_A (Kv:VW):A := (qr 2 (qr 4 (qr 1 (qs (qr 4 (qb (A.loop [0, 1, 6, 7, 8] (uR0 [tL, tL, tL, tL, tI] (z1c_L0 Kv)) (qs (qr 2 (qc ql ql)) (qs (qb (qr 9 (qr 1 (qr 1 (qs (qr 4 (qc (qe 1) ql)) (A.cut [0, 1, 6, 7, 8, 9, 10] (uR1 [tL, tL, tL, tL, tI] [tL, tL, tL, tL, tI, tI, tI] (z1c_L1 Kv)) (qs (qb (A.loop [0, 1, 6, 7, 8, 9, 10] (uR1 [tL, tL, tL, tL, tI] [tL, tL, tL, tL, tI, tI, tI] (z1c_L2 Kv)) (qs (qr 4 (qc ql ql)) (qb (qr 5 (qr 6 (qc (qe 2) (qe 2)))))))) (qr 5 (qe 6))))))))) (qe 3)))))) (qr 5 ql)))))
theorem z1c_ok:Sound Tryz.prog 101 z1c_S := okS (x := z1c_A) (fun Kv a_0 b_1=>z1c_sd a_0 b_1 (kk [.u 2, tL, tL] Kv)) progMixed (Γ := [(102, z1d_S), (115, z0f_S), (116, z28_S), (117, z0x_S)]) ⟨.inl z1d_ok, .inl z0f_ok, .inl z28_ok, .inl z0x_ok, trivial⟩ Tryz.call101 Tryz.func101 (fun Kv=>hStep (hLoop0 (L := z1c_L0 Kv) (fun N0 a_0 b_1 q_6 r_7 i_8=>z1c_b0 a_0 b_1 q_6 r_7 i_8 N0 (kk [.u 2, tL, tL] Kv)) (fun ⟨a0, a1, a2, _, _, _⟩ _ h=>let ⟨I, μ, h0, hr⟩ := h.out; ⟨fun b0 b1 b2 b3 b4 w=>(b0=a0/\b1=a1/\b2=a2/\True)/\I b3 b4 w, fun _ _ _ b3 b4 w=>μ b3 b4 w, ⟨⟨rfl, rfl, rfl, trivial⟩, h0⟩, fun ⟨_, _, _, _, _, _⟩ _ ⟨⟨e0, e1, e2, _⟩, hI⟩=>by cases e0; cases e1; cases e2; exact hr _ _ _ hI⟩)) <| hStep (hCut1 (F := z1c_L1 Kv) (G := fun N0 a_0 b_1 q_6 r_7 i_8 low_9 high_10=>z1c_k1d a_0 b_1 q_6 r_7 i_8 low_9 high_10 N0 (kk [.u 2, tL, tL] Kv))) <| hStep (hLoop1 (L := z1c_L2 Kv) (fun N0 N2 a_0 b_1 q_6 r_7 i_8 low_9 high_10=>z1c_b2 a_0 b_1 q_6 r_7 i_8 low_9 high_10 N2 N0 (kk [.u 2, tL, tL] Kv)) (fun _ ⟨a0, a1, a2, a3, a4, _, _, _⟩ _ h=>let ⟨I, μ, h0, hr⟩ := h.out; ⟨fun b0 b1 b2 b3 b4 b5 b6 w=>(b0=a0/\b1=a1/\b2=a2/\b3=a3/\b4=a4/\True)/\I b5 b6 w, fun _ _ _ _ _ b5 b6 w=>μ b5 b6 w, ⟨⟨rfl, rfl, rfl, rfl, rfl, trivial⟩, h0⟩, fun ⟨_, _, _, _, _, _, _, _⟩ _ ⟨⟨e0, e1, e2, e3, e4, _⟩, hI⟩=>by cases e0; cases e1; cases e2; cases e3; cases e4; exact hr _ _ _ hI⟩)) <| hEnd)
def z0p_b0 (a_0 b_1:Sl) (N0:Sl->Sl->World->Prop) (K:Pw.T0) (w:World):Prop :=
 z1d_sh b_1 (fun r2 w1=>cnd (decide ((r2.l:Int) > (0:Int)))
 (z1d_sh a_0 (fun r4 w3=>z1d_sh b_1 (fun r6 w5=>z1c_sh r4 r6 (fun r8 r9 w7=>N0 b_1 r9 w7) w5) w3) w1)
 (z1d_sh a_0 (fun r11 w10=>K r11 w10) w1)) w
def z0p_l0d (a_0 b_1:Sl) (K:Pw.T0) (w:World):Prop :=
 ∃ (I:Sl->Sl->World->Prop) (μ:Sl->Sl->World->Nat), I a_0 b_1 w/\∀ (a_01 b_11:Sl) (w1:World), I a_01 b_11 w1 ->
 z0p_b0 a_01 b_11 (fun a_0' b_1' w'=>((True)/\I a_0' b_1' w')/\μ a_0' b_1' w' < μ a_01 b_11 w1) K w1
structure z0p_l0 (a_0 b_1:Sl) (K:Pw.T0) (w:World):Prop where
 out:z0p_l0d a_0 b_1 K w
def z0p_sd (a_0 b_1:Sl) (K:Pw.T0) (w:World):Prop :=
 z0p_l0 a_0 b_1 K w
structure z0p_sh (a_0 b_1:Sl) (K:Pw.T0) (w:World):Prop where
 out:z0p_sd a_0 b_1 K w
def z0p_L0 (Kv:VW):Cur [tL, tL] WP := fun a_0 b_1=>z0p_l0 a_0 b_1 (kk [tL] Kv)
noncomputable def z0p_S:Pw.Spec := fun vs w Kv=>un [tL, tL] (fun a_0 b_1=>z0p_sh a_0 b_1 (kk [tL] Kv)) nF vs w
def z0p_A (Kv:VW):A := (qr 1 (qs (qb (A.loop [0, 1] (uR0 [tL, tL] (z0p_L0 Kv)) (qs (qr 4 (qc ql ql)) (qb (qr 10 (qr 2 (qe 2))))))) (qr 3 ql)))
theorem z0p_ok:Sound Tryz.prog 100 z0p_S := okS (x := z0p_A) (fun Kv a_0 b_1=>z0p_sd a_0 b_1 (kk [tL] Kv)) progMixed (Γ := [(101, z1c_S), (102, z1d_S)]) ⟨.inl z1c_ok, .inl z1d_ok, trivial⟩ Tryz.call100 Tryz.func100 (fun Kv=>hStep (hLoop0 (L := z0p_L0 Kv) (fun N0 a_0 b_1=>z0p_b0 a_0 b_1 N0 (kk [tL] Kv)) (fun ⟨_, _, _⟩ _ h=>let ⟨I, μ, h0, hr⟩ := h.out; ⟨fun b0 b1 w=>(True)/\I b0 b1 w, fun b0 b1 w=>μ b0 b1 w, ⟨trivial, h0⟩, fun ⟨_, _, _⟩ _ ⟨_, hI⟩=>by exact hr _ _ _ hI⟩)) <| hEnd)
def z1w_k1d (m_5:Int) (K:Pw.T10) (w:World):Prop :=
 cnd (decide (m_5 >= (9223372036854775808:Int)))
 (K (0:Int) false w)
 (K (IntKind.wrap .i64 m_5) true w)
structure z1w_k1 (m_5:Int) (K:Pw.T10) (w:World):Prop where
 out:z1w_k1d m_5 K w
def z1w_b0 (a_1:Addr) (l_4:Sl) (m_5 i_6:Int) (N0:Addr->Sl->Int->Int->World->Prop) (K:Pw.T10) (w:World):Prop :=
 cnd (decide (i_6 >= (0:Int)))
 (nz l_4.p fun a5=>(0 <= i_6/\i_6 < (l_4.l:Nat))/\∃ x6:Int, w.cell? (a5.add (i_6.toNat * 1))=some (Value.int .i64 x6)/\N0 a_1 l_4 (IntKind.wrap .u64 ((IntKind.wrap .u64 (m_5 * (65536:Int))) + (IntKind.wrap .u64 x6))) (IntKind.wrap .i64 (i_6 - (1:Int))) w)
 (∃ x7:Bool, w.cell? a_1=some (Value.bool x7)/\cnd x7
 (cnd (decide (m_5 <= (9223372036854775808:Int)))
 (K (IntKind.wrap .i64 (IntKind.wrap .u64 ((0:Int) - m_5))) true w)
 (z1w_k1 m_5 K w))
 (z1w_k1 m_5 K w))
def z1w_l0d (a_1:Addr) (l_4:Sl) (m_5 i_6:Int) (K:Pw.T10) (w:World):Prop :=
 ∃ (I:Int->Int->World->Prop) (μ:Int->Int->World->Nat), I m_5 i_6 w/\∀ (m_51 i_61:Int) (w1:World), I m_51 i_61 w1 ->
 z1w_b0 a_1 l_4 m_51 i_61 (fun a_1' l_4' m_5' i_6' w'=>((a_1'=a_1/\l_4'=l_4/\True)/\I m_5' i_6' w')/\μ m_5' i_6' w' < μ m_51 i_61 w1) K w1
structure z1w_l0 (a_1:Addr) (l_4:Sl) (m_5 i_6:Int) (K:Pw.T10) (w:World):Prop where
 out:z1w_l0d a_1 l_4 m_5 i_6 K w
def z1w_sd (a_0_0:Bool) (a_0_1:Sl) (K:Pw.T10) (w:World):Prop :=
 let w1 := w.alloc (Obj.cells #[(Value.bool a_0_0), (Value.slice a_0_1.p a_0_1.l a_0_1.c)] 118)
 ∃ x2:Sl, w1.cell? (Addr.mk w.heap.size 1 none)=some (Value.slice x2.p x2.l x2.c)/\z1d_sh x2 (fun r4 w3=>cnd (decide ((r4.l:Int) > (4:Int)))
 (K (0:Int) false w3)
 (z1w_l0 (Addr.mk w.heap.size 0 none) r4 (0:Int) (IntKind.wrap .i64 ((r4.l:Int) - (1:Int))) K w3)) w1
structure z1w_sh (a_0_0:Bool) (a_0_1:Sl) (K:Pw.T10) (w:World):Prop where
 out:z1w_sd a_0_0 a_0_1 K w
def z1w_L0 (Kv:VW):Cur [tQ, tL, tU, tI] WP := fun a_1 l_4 m_5 i_6=>z1w_l0 a_1 l_4 m_5 i_6 (kk [.u 2, tI, tB] Kv)
def z1w_L1 (Kv:VW):Cur [tU] WP := fun m_5=>z1w_k1 m_5 (kk [.u 2, tI, tB] Kv)
noncomputable def z1w_S:Pw.Spec := fun vs w Kv=>un [.g 2, tB, tL] (fun a_0_0 a_0_1=>z1w_sh a_0_0 a_0_1 (kk [.u 2, tI, tB] Kv)) nF vs w
def z1w_A (Kv:VW):A := (qr 3 (qr 4 (qs (qr 3 (qc (qr 2 ql) ql)) (qr 1 (qs (qs (A.reg (qn 2 (RA.raw (qn 1 RA.done)))) (qb (A.loop [1, 4, 5, 6] (uR0 [tQ, tL, tU, tI] (z1w_L0 Kv)) (qs (qr 2 (qc ql ql)) (qs (qb (A.reg (qn 1 (RA.raw (qn 4 (RA.raw (RA.raw (qn 1 RA.done)))))))) (A.reg (qn 1 (RA.raw (qn 1 RA.done))))))))) (qs (qs (A.reg (qn 3 (RA.spl 30 (qn 3 RA.done) (qk 2 (qn 1 RA.done))))) (qc (qs (A.reg (qn 1 (RA.raw (RA.raw (qn 2 RA.done))))) ql) ql)) (A.cut [5] (uR0 [tU] (z1w_L1 Kv)) (qs (qr 2 (qc (qr 2 ql) ql)) (qs (A.reg (qn 1 (RA.raw (qn 2 RA.done)))) ql)))))))))
theorem z1w_ok:Sound Tryz.prog 103 z1w_S := okS (x := z1w_A) (fun Kv a_0_0 a_0_1=>z1w_sd a_0_0 a_0_1 (kk [.u 2, tI, tB] Kv)) progMixed (Γ := [(102, z1d_S)]) ⟨.inl z1d_ok, trivial⟩ Tryz.call103 Tryz.func103 (fun Kv=>hStep (hLoop0 (L := z1w_L0 Kv) (fun N0 a_1 l_4 m_5 i_6=>z1w_b0 a_1 l_4 m_5 i_6 N0 (kk [.u 2, tI, tB] Kv)) (fun ⟨a0, a1, _, _, _⟩ _ h=>let ⟨I, μ, h0, hr⟩ := h.out; ⟨fun b0 b1 b2 b3 w=>(b0=a0/\b1=a1/\True)/\I b2 b3 w, fun _ _ b2 b3 w=>μ b2 b3 w, ⟨⟨rfl, rfl, trivial⟩, h0⟩, fun ⟨_, _, _, _, _⟩ _ ⟨⟨e0, e1, _⟩, hI⟩=>by cases e0; cases e1; exact hr _ _ _ hI⟩)) <| hStep (hCut0 (F := z1w_L1 Kv) (G := fun m_5=>z1w_k1d m_5 (kk [.u 2, tI, tB] Kv))) <| hEnd)
def z0q_k1d (t_4:Addr) (K:Pw.T6) (w:World):Prop :=
 z27_sh (0:Int) (fun r32_0 r32_1 w31=>wrOk w31 t_4/\
 (let w33 := w31.setCell t_4 (Value.int .i64 r32_0)
 wrOk w33 (t_4.add 1)/\
 (let w34 := w33.setCell (t_4.add 1) (Value.int .i64 r32_1)
 ∃ x35:Int, w34.cell? t_4=some (Value.int .i64 x35)/\∃ x36:Int, w34.cell? (t_4.add 1)=some (Value.int .i64 x36)/\K x35 x36 false w34))) w
structure z0q_k1 (t_4:Addr) (K:Pw.T6) (w:World):Prop where
 out:z0q_k1d t_4 K w
def z0q_k0d (t_4:Addr) (y_9:Sl) (num_11:Int) (one_12:Bool) (K:Pw.T6) (w:World):Prop :=
 z1w_sh false y_9 (fun r29 r30 w28=>cnd (!one_12)
 (z0q_k1 t_4 K w28)
 (cnd (!r30)
 (z0q_k1 t_4 K w28)
 (wrOk w28 t_4/\
 (let w37 := w28.setCell t_4 (Value.int .i64 num_11)
 wrOk w37 (t_4.add 1)/\
 (let w38 := w37.setCell (t_4.add 1) (Value.int .i64 r29)
 ∃ x39:Int, w38.cell? t_4=some (Value.int .i64 x39)/\∃ x40:Int, w38.cell? (t_4.add 1)=some (Value.int .i64 x40)/\K x39 x40 true w38))))) w
structure z0q_k0 (t_4:Addr) (y_9:Sl) (num_11:Int) (one_12:Bool) (K:Pw.T6) (w:World):Prop where
 out:z0q_k0d t_4 y_9 num_11 one_12 K w
def z0q_sd (n_0_0:Bool) (n_0_1:Sl) (d_1_0:Bool) (d_1_1:Sl) (K:Pw.T6) (w:World):Prop :=
 let w1 := w.alloc (Obj.cells #[(Value.bool n_0_0), (Value.slice n_0_1.p n_0_1.l n_0_1.c)] 118)
 let w2 := w1.alloc (Obj.cells #[(Value.bool d_1_0), (Value.slice d_1_1.p d_1_1.l d_1_1.c)] 118)
 let w3 := w2.alloc (Obj.cells #[(Value.int .i64 0), (Value.int .i64 0)] 35)
 ∃ x4:Sl, w3.cell? (Addr.mk w.heap.size 1 none)=some (Value.slice x4.p x4.l x4.c)/\∃ x5:Sl, w3.cell? (Addr.mk w1.heap.size 1 none)=some (Value.slice x5.p x5.l x5.c)/\z0p_sh x4 x5 (fun r7 w6=>∃ x8:Sl, w6.cell? (Addr.mk w.heap.size 1 none)=some (Value.slice x8.p x8.l x8.c)/\z1d_sh x8 (fun r10 w9=>z1c_sh r10 r7 (fun r12 r13 w11=>∃ x14:Sl, w11.cell? (Addr.mk w1.heap.size 1 none)=some (Value.slice x14.p x14.l x14.c)/\z1d_sh x14 (fun r16 w15=>z1c_sh r16 r7 (fun r18 r19 w17=>∃ x20:Bool, w17.cell? (Addr.mk w.heap.size 0 none)=some (Value.bool x20)/\∃ x21:Bool, w17.cell? (Addr.mk w1.heap.size 0 none)=some (Value.bool x21)/\cnd (!(x20 == x21))
 (z1w_sh (decide ((r12.l:Int) > (0:Int))) r12 (fun r23 r24 w22=>z0q_k0 (Addr.mk w2.heap.size 0 none) r18 r23 r24 K w22) w17)
 (z1w_sh false r12 (fun r26 r27 w25=>z0q_k0 (Addr.mk w2.heap.size 0 none) r18 r26 r27 K w25) w17)) w15) w11) w9) w6) w3
structure z0q_sh (n_0_0:Bool) (n_0_1:Sl) (d_1_0:Bool) (d_1_1:Sl) (K:Pw.T6) (w:World):Prop where
 out:z0q_sd n_0_0 n_0_1 d_1_0 d_1_1 K w
def z0q_L0 (Kv:VW):Cur [tQ, tL, tI, tB] WP := fun t_4 y_9 num_11 one_12=>z0q_k0 t_4 y_9 num_11 one_12 (kk [.u 2, .g 2, tI, tI, tB] Kv)
def z0q_L1 (Kv:VW):Cur [tQ] WP := fun t_4=>z0q_k1 t_4 (kk [.u 2, .g 2, tI, tI, tB] Kv)
noncomputable def z0q_S:Pw.Spec := fun vs w Kv=>un [.g 2, tB, tL, .g 2, tB, tL] (fun n_0_0 n_0_1 d_1_0 d_1_1=>z0q_sh n_0_0 n_0_1 d_1_0 d_1_1 (kk [.u 2, .g 2, tI, tI, tB] Kv)) nF vs w
def z0q_A (Kv:VW):A := (qr 4 (qr 6 (qr 10 (qr 10 (qs (A.reg (qn 6 (RA.spl 42 (qn 12 RA.done) (qk 3 (qn 9 RA.done))))) (A.cut [4, 9, 11, 12] (uR0 [tQ, tL, tI, tB] (z0q_L0 Kv)) (qr 8 (qs (qs (A.reg (qn 3 (RA.spl 60 (qk 2 (qn 1 RA.done)) (qn 3 RA.done)))) (qc (A.cut [4] (uR0 [tQ] (z0q_L1 Kv)) (qr 3 ql)) ql)) (qr 5 ql)))))))))
theorem z0q_ok:Sound Tryz.prog 84 z0q_S := okS (x := z0q_A) (fun Kv n_0_0 n_0_1 d_1_0 d_1_1=>z0q_sd n_0_0 n_0_1 d_1_0 d_1_1 (kk [.u 2, .g 2, tI, tI, tB] Kv)) progMixed (Γ := [(81, z27_S), (100, z0p_S), (101, z1c_S), (102, z1d_S), (103, z1w_S)]) ⟨.inl z27_ok, .inl z0p_ok, .inl z1c_ok, .inl z1d_ok, .inl z1w_ok, trivial⟩ Tryz.call84 Tryz.func84 (fun Kv=>hStep (hCut0 (F := z0q_L0 Kv) (G := fun t_4 y_9 num_11 one_12=>z0q_k0d t_4 y_9 num_11 one_12 (kk [.u 2, .g 2, tI, tI, tB] Kv))) <| hStep (hCut0 (F := z0q_L1 Kv) (G := fun t_4=>z0q_k1d t_4 (kk [.u 2, .g 2, tI, tI, tB] Kv))) <| hEnd)
def z1b_k0d (num_0 den_1:Int) (t_4:Addr) (K:Pw.T6) (w:World):Prop :=
 z29_sh num_0 (fun r19_0 r19_1 w18=>z29_sh den_1 (fun r21_0 r21_1 w20=>z0q_sh r19_0 r19_1 r21_0 r21_1 (fun r23_0 r23_1 r24 w22=>wrOk w22 t_4/\
 (let w25 := w22.setCell t_4 (Value.int .i64 r23_0)
 wrOk w25 (t_4.add 1)/\
 (let w26 := w25.setCell (t_4.add 1) (Value.int .i64 r23_1)
 ∃ x27:Int, w26.cell? t_4=some (Value.int .i64 x27)/\∃ x28:Int, w26.cell? (t_4.add 1)=some (Value.int .i64 x28)/\K x27 x28 r24 w26))) w20) w18) w
structure z1b_k0 (num_0 den_1:Int) (t_4:Addr) (K:Pw.T6) (w:World):Prop where
 out:z1b_k0d num_0 den_1 t_4 K w
def z1b_sd (num_0 den_1:Int) (K:Pw.T6) (w:World):Prop :=
 let w1 := w.alloc (Obj.cells #[(Value.int .i64 0), (Value.int .i64 0)] 35)
 cnd (den_1 == (0:Int))
 (z27_sh (0:Int) (fun r3_0 r3_1 w2=>wrOk w2 (Addr.mk w.heap.size 0 none)/\
 (let w4 := w2.setCell (Addr.mk w.heap.size 0 none) (Value.int .i64 r3_0)
 wrOk w4 (Addr.mk w.heap.size 1 none)/\
 (let w5 := w4.setCell (Addr.mk w.heap.size 1 none) (Value.int .i64 r3_1)
 ∃ x6:Int, w5.cell? (Addr.mk w.heap.size 0 none)=some (Value.int .i64 x6)/\∃ x7:Int, w5.cell? (Addr.mk w.heap.size 1 none)=some (Value.int .i64 x7)/\K x6 x7 false w5))) w1)
 (z0z_sh num_0 (fun r9 w8=>cnd r9
 (z0z_sh den_1 (fun r11 w10=>cnd r11
 (z0y_sh num_0 den_1 (fun r13_0 r13_1 w12=>wrOk w12 (Addr.mk w.heap.size 0 none)/\
 (let w14 := w12.setCell (Addr.mk w.heap.size 0 none) (Value.int .i64 r13_0)
 wrOk w14 (Addr.mk w.heap.size 1 none)/\
 (let w15 := w14.setCell (Addr.mk w.heap.size 1 none) (Value.int .i64 r13_1)
 ∃ x16:Int, w15.cell? (Addr.mk w.heap.size 0 none)=some (Value.int .i64 x16)/\∃ x17:Int, w15.cell? (Addr.mk w.heap.size 1 none)=some (Value.int .i64 x17)/\K x16 x17 true w15))) w10)
 (z1b_k0 num_0 den_1 (Addr.mk w.heap.size 0 none) K w10)) w8)
 (z1b_k0 num_0 den_1 (Addr.mk w.heap.size 0 none) K w8)) w1)
structure z1b_sh (num_0 den_1:Int) (K:Pw.T6) (w:World):Prop where
 out:z1b_sd num_0 den_1 K w
def z1b_L0 (Kv:VW):Cur [tI, tI, tQ] WP := fun num_0 den_1 t_4=>z1b_k0 num_0 den_1 t_4 (kk [.u 2, .g 2, tI, tI, tB] Kv)
noncomputable def z1b_S:Pw.Spec := fun vs w Kv=>un [tI, tI] (fun num_0 den_1=>z1b_sh num_0 den_1 (kk [.u 2, .g 2, tI, tI, tB] Kv)) nF vs w
def z1b_A (Kv:VW):A := (qr 2 (qs (qr 2 (qc (qr 3 ql) ql)) (qs (qs (A.reg (qn 3 (RA.spl 11 (qn 3 RA.done) (qk 2 (qn 1 RA.done))))) (qc (qr 5 ql) ql)) (A.cut [0, 1, 4] (uR0 [tI, tI, tQ] (z1b_L0 Kv)) (qr 9 ql)))))
theorem z1b_ok:Sound Tryz.prog 55 z1b_S := okS (x := z1b_A) (fun Kv num_0 den_1=>z1b_sd num_0 den_1 (kk [.u 2, .g 2, tI, tI, tB] Kv)) progMixed (Γ := [(81, z27_S), (82, z0z_S), (83, z0y_S), (84, z0q_S), (85, z29_S)]) ⟨.inl z27_ok, .inl z0z_ok, .inl z0y_ok, .inl z0q_ok, .inl z29_ok, trivial⟩ Tryz.call55 Tryz.func55 (fun Kv=>hStep (hCut0 (F := z1b_L0 Kv) (G := fun num_0 den_1 t_4=>z1b_k0d num_0 den_1 t_4 (kk [.u 2, .g 2, tI, tI, tB] Kv))) <| hEnd)
end Go.Proofs.YtfkmpbpkahcogaaGreatDoor
